/- The walk of the reference's Leave. -/
import Derived.Test.YtogcjflppjebfaaRefT
namespace Go.Proofs.Ytogcjflppjebfaa
open Go.ChangeShapes Go.WideShapes Go.ChangeAt Go.RowKit Go.Deep

set_option maxHeartbeats 1000000 in
theorem ref_leave (base g : Nat) (f : Nat → Bool) (xs : List Int) (j : Int) (w : World) (h : RefL base g xs w) (hs : Same f xs) (hbase : base ≤ w.heap.size) :
    Calls Try.prog 11 #[.pointer (some ⟨g, 0, none⟩), .int .i64 j] w fun e w' => e = .returned (.int .i64 (turnR f j false)) ∧ RefDone base g (turnS f j false) w w' := by
  have HN : RefDone base g f w w := ⟨⟨xs, h, hs⟩, Below.refl _ _, fun _ _ _ _ _ h => h⟩
  by_cases h1 : j < 0
  · obtain ⟨e1, e2⟩ := turnR_out f j false (.inl h1)
    rw [e1, e2]
    clear e1 e2 h hs
    go_enter Try.func11, Try.ntmps11
    go_wp2_with fail
    go_ret
    exact ⟨rfl, HN⟩
  · by_cases h2 : 8 ≤ j
    · obtain ⟨e1, e2⟩ := turnR_out f j false (.inr h2)
      rw [e1, e2]
      clear e1 e2 h hs
      go_enter Try.func11, Try.ntmps11
      go_wp2_with fail
      go_ret
      exact ⟨rfl, HN⟩
    · obtain ⟨k, rfl⟩ := Int.eq_ofNat_of_zero_le (show 0 ≤ j by omega)
      have hk : k < 8 := by omega
      have hl := hs.len
      have HS := Lib.hid hs; clear hs
      have H := Lib.hid h; clear h
      go_enter Try.func11, Try.ntmps11
      go_wp2_with fail
      refine (place_any base g xs k _ H.out hl).mono ?_; rintro e w' ⟨p, rfl, rfl, ⟨rfl, hn⟩ | ⟨q, rfl, hq⟩⟩
      · have hf : f k = false := by
          rcases hh : f k with _ | _
          · rfl
          · exact absurd ((HS.out.mem hk).2 hh) hn
        obtain ⟨e1, e2⟩ := turnR_same f k false hk hf
        have E1 := Lib.hid e1; clear e1
        have E2 := Lib.hid e2; clear e2 hf hn
        go_wp2_with fail
        go_ret
        exact ⟨r_int E1.out.symm, by rw [E2.out]; exact HN⟩
      · have hf : ¬ f k = false := by
          rw [(HS.out.mem hk).1 (List.mem_of_getElem? hq)]; decide
        obtain ⟨e1, e2⟩ := turnR_done f k false hk hf
        have E1 := Lib.hid e1; clear e1
        have E2 := Lib.hid e2; clear e2
        have hql : q < xs.length := by
          rcases Nat.lt_or_ge q xs.length with h | h
          · exact h
          · rw [List.getElem?_eq_none h] at hq; cases hq
        have HQ := Lib.hid hq; clear hq hf
        obtain ⟨hg, v, hb, ho⟩ := H.out
        have hv : ∃ A c, v = .slice A xs.length c ∧ xs.length ≤ c ∧ c ≤ maxLen ∧ ∀ i, i < xs.length → ∃ g, A = some ⟨g, 0, none⟩ ∧ base ≤ g ∧ g < w.heap.size ∧ w.cell? ⟨g, i, none⟩ = (xs.map (Value.int .i64))[i]? := own_form ho
        obtain ⟨A, c, rfl, hnc, hcm, hcell⟩ := hv
        obtain ⟨gr, rfl, hgr1, hgr2, _⟩ := hcell q hql
        have HC : Hid (∀ i, i < xs.length → w.cell? ⟨gr, i, none⟩ = (xs.map (Value.int .i64))[i]?) := Lib.hid (fun i hi => by
          obtain ⟨g2, e, _, _, h⟩ := hcell i hi
          injection e with e
          injection e with e
          subst e
          exact h)
        clear hcell
        unfold maxLen at hcm
        have c0 : w.cell? ⟨g, 0, none⟩ = some (.slice (some ⟨gr, 0, none⟩) xs.length c) := hb.cell 0
        obtain ⟨i0, hi0, hz0, hz1, hz2⟩ := info_parts A_info3
        have HB := Lib.hid hb; clear hb
        have HO := Lib.hid ho; clear ho
        generalize hnn : xs.length = n at *
        have HNN := Lib.hid hnn; clear hnn
        have HT : Hid (∀ i u, ((xs.take q).map (Value.int .i64))[i]? = some u → w.cell? ((⟨gr, 0, none⟩ : Addr).add i) = some u) := Lib.hid (fun i u hu => by
          have hi : i < q := by
            rcases Nat.lt_or_ge i q with h | h
            · exact h
            · rw [List.getElem?_eq_none (by simp; omega)] at hu; cases hu
          have e : (⟨gr, 0, none⟩ : Addr).add i = ⟨gr, i, none⟩ := by
            unfold Addr.add
            by_cases hk : i = 0 <;> simp [hk]
          rw [e, HC.out i (by omega), ← hu, List.map_take, List.getElem?_take, if_pos hi])
        go_wp2_with (first | (at_builtin; refine wpList_append_own _ rfl (.tmp 18) (.tmp 24) 37 rfl base 3 i0 (.int .i64 0) 1 8 Try.underlying37 hi0 hz0 hz1 hz2 rfl (by decide) (.slice none 0 0) 0 [] rfl (World.ownsRow_nil _ _ _ _) ⟨gr, 0, none⟩ q c ((xs.take q).map (Value.int .i64)) rfl ?c0 HT.out (ints_oneCell _ _) ?c3 ?c4 hbase ?_))
        case c0 => have := HNN.out; simp; omega
        case c3 => unfold maxLen; omega
        case c4 => omega
        intro v1 w1 hown1 hgrow1 _
        replace hown1 : w1.ownsRow base 3 1 v1 q ((xs.take q).map (Value.int .i64)) := by simpa using hown1
        have hb1 : Blk w1 g 44 #[.slice (some ⟨gr, 0, none⟩) n c] := HB.out.grown hgrow1 (by simp [Value.ownBlock])
        have c1 : w1.cell? ⟨g, 0, none⟩ = some (.slice (some ⟨gr, 0, none⟩) n c) := hb1.cell 0
        have HG1 := Lib.hid hgrow1; clear hgrow1
        have HO1 := Lib.hid hown1; clear hown1
        have HB1 := Lib.hid hb1; clear hb1 c0
        by_cases hcq : c = q + 1
        · obtain rfl : n = q + 1 := by omega
          subst hcq
          have HNL : Hid ([] = (xs.drop (q + 1)).map (Value.int .i64)) := Lib.hid (by rw [List.drop_of_length_le (by have := HNN.out; omega)]; rfl)
          go_wp2_with (first | (at_builtin; refine wpList_append_own _ rfl (.tmp 27) (.tmp 34) 37 rfl base 3 i0 (.int .i64 0) 1 8 Try.underlying37 hi0 hz0 hz1 hz2 rfl (by decide) v1 q _ rfl HO1.out ⟨gr, 0, none⟩ 0 0 [] rfl rfl ?d1 ?d2 ?d3 ?d4 ?d5 ?_))
          case d1 => intro i u hu; simp at hu
          case d2 => intro u hu; simp at hu
          case d3 => unfold maxLen; omega
          case d4 => omega
          case d5 => exact Nat.le_trans hbase HG1.out.size
          intro v2 w2 hown2 hgrow2 _
          have hv2 : ∃ A c, v2 = .slice A (q + 0) c := by
            obtain ⟨A, c, e, _⟩ := own_form hown2
            exact ⟨A, c, e⟩
          obtain ⟨A', c', hv2⟩ := hv2
          rw [hv2] at hown2 ⊢
          clear hv2
          have hb2 : Blk w2 g 44 #[.slice (some ⟨gr, 0, none⟩) (q + 1) (q + 1)] := HB1.out.grown hgrow2 (fun e => own_blk_ne HO1.out HB1.out (by decide) e.symm)
          have c2 : w2.cell? ⟨g, 0, none⟩ = some (.slice (some ⟨gr, 0, none⟩) (q + 1) (q + 1)) := hb2.cell 0
          have f2 := hb2.frozen 0
          have HB2 := Lib.hid hb2; clear hb2
          have HO2 := Lib.hid hown2; clear hown2
          have HG2 := Lib.hid hgrow2; clear hgrow2
          go_wp2_with fail
          go_ret
          refine ⟨r_int E1.out.symm, ?_⟩
          rw [E2.out]
          have hbel1 : Below base w w1 := (Below.refl base w).grown HG1.out hbase (by simp [Value.ownBlock])
          have hbel2 : Below base w w2 := hbel1.grown HG2.out (Nat.le_trans hbase HG1.out.size) (fun b hb => (HO1.out.lt b hb).1)
          refine ref_stored hg (HS.out.leave HQ.out) HB2.out rfl ?_ hbel2 (fun b t cs h44 h3 hh => (hh.grown HG1.out (by simp [Value.ownBlock])).grown HG2.out (fun e => own_blk_ne HO1.out (hh.grown HG1.out (by simp [Value.ownBlock])) (Ne.symm h3) e.symm))
          have hlen : (xs.take q ++ xs.drop (q + 1)).length = q + 0 := by
            have := HNN.out
            simp; omega
          rw [hlen]
          rw [List.map_append, ← HNL.out]
          simpa using HO2.out
        · have HT2 : Hid (∀ i u, ((xs.drop (q + 1)).map (Value.int .i64))[i]? = some u → w1.cell? ((⟨gr, q + 1, none⟩ : Addr).add i) = some u) := Lib.hid (fun i u hu => by
            have hi : i < n - (q + 1) := by
              rcases Nat.lt_or_ge i (n - (q + 1)) with h | h
              · exact h
              · rw [List.getElem?_eq_none (by have := HNN.out; simp; omega)] at hu; cases hu
            have e : (⟨gr, q + 1, none⟩ : Addr).add i = ⟨gr, q + 1 + i, none⟩ := by
              unfold Addr.add
              by_cases hk : i = 0 <;> simp [hk]
            rw [e, World.cell?_of_block (HG1.out.block gr hgr2 (by simp [Value.ownBlock])), HC.out (q + 1 + i) (by omega), ← hu, List.map_drop, List.getElem?_drop])
          go_wp2_with (first | (at_builtin; refine wpList_append_own _ rfl (.tmp 27) (.tmp 34) 37 rfl base 3 i0 (.int .i64 0) 1 8 Try.underlying37 hi0 hz0 hz1 hz2 rfl (by decide) v1 q _ rfl HO1.out ⟨gr, q + 1, none⟩ (n - (q + 1)) (c - (q + 1)) ((xs.drop (q + 1)).map (Value.int .i64)) rfl ?d1 HT2.out (ints_oneCell _ _) ?d3 ?d4 ?d5 ?_))
          case d1 => have := HNN.out; simp; omega
          case d3 => unfold maxLen; omega
          case d4 => omega
          case d5 => exact Nat.le_trans hbase HG1.out.size
          intro v2 w2 hown2 hgrow2 _
          have hv2 : ∃ A c, v2 = .slice A (q + (n - (q + 1))) c := by
            obtain ⟨A, c, e, _⟩ := own_form hown2
            exact ⟨A, c, e⟩
          obtain ⟨A', c', hv2⟩ := hv2
          rw [hv2] at hown2 ⊢
          clear hv2
          have hb2 : Blk w2 g 44 #[.slice (some ⟨gr, 0, none⟩) n c] := HB1.out.grown hgrow2 (fun e => own_blk_ne HO1.out HB1.out (by decide) e.symm)
          have c2 : w2.cell? ⟨g, 0, none⟩ = some (.slice (some ⟨gr, 0, none⟩) n c) := hb2.cell 0
          have f2 := hb2.frozen 0
          have HB2 := Lib.hid hb2; clear hb2
          have HO2 := Lib.hid hown2; clear hown2
          have HG2 := Lib.hid hgrow2; clear hgrow2
          go_wp2_with fail
          go_ret
          refine ⟨r_int E1.out.symm, ?_⟩
          rw [E2.out]
          have hbel1 : Below base w w1 := (Below.refl base w).grown HG1.out hbase (by simp [Value.ownBlock])
          have hbel2 : Below base w w2 := hbel1.grown HG2.out (Nat.le_trans hbase HG1.out.size) (fun b hb => (HO1.out.lt b hb).1)
          refine ref_stored hg (HS.out.leave HQ.out) HB2.out rfl ?_ hbel2 (fun b t cs h44 h3 hh => (hh.grown HG1.out (by simp [Value.ownBlock])).grown HG2.out (fun e => own_blk_ne HO1.out (hh.grown HG1.out (by simp [Value.ownBlock])) (Ne.symm h3) e.symm))
          have hlen : (xs.take q ++ xs.drop (q + 1)).length = q + (n - (q + 1)) := by
            have := HNN.out
            simp; omega
          rw [hlen]
          simpa using HO2.out

end Go.Proofs.Ytogcjflppjebfaa
