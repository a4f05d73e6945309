/- The walks of the reference's Enter and Leave. -/
import Derived.Test.YtogcjflppjebfaaRef
namespace Go.Proofs.Ytogcjflppjebfaa
open Go.ChangeShapes Go.WideShapes Go.ChangeAt Go.RowKit Go.Deep

theorem turnR_out (f : Nat → Bool) (j : Int) (v : Bool) (h : j < 0 ∨ 8 ≤ j) : turnR f j v = 2 ∧ turnS f j v = f := by
  have e : turnR f j v = 2 := by rw [turnR, if_pos h]
  exact ⟨e, by rw [turnS, e]; rfl⟩
theorem turnR_same (f : Nat → Bool) (k : Nat) (v : Bool) (hk : k < 8) (h : f k = v) : turnR f k v = 80 ∧ turnS f k v = f := by
  have e : turnR f k v = 80 := by rw [turnR, if_neg (by omega), Int.toNat_natCast, if_pos h]
  exact ⟨e, by rw [turnS, e]; rfl⟩
theorem turnR_done (f : Nat → Bool) (k : Nat) (v : Bool) (hk : k < 8) (h : ¬ f k = v) : turnR f k v = 0 ∧ turnS f k v = upd f k v := by
  have e : turnR f k v = 0 := by rw [turnR, if_neg (by omega), Int.toNat_natCast, if_neg h]
  exact ⟨e, by rw [turnS, e, if_pos rfl, Int.toNat_natCast]⟩

/-- The blocks of other types than the reference's roll (44) and its rows (3) are as they were. -/
def Rolls42 (w w' : World) : Prop := ∀ b t cs, t ≠ 44 → t ≠ 3 → Blk w b t cs → Blk w' b t cs
/-- What the reference's Enter and Leave leave. -/
def RefDone (base g : Nat) (f : Nat → Bool) (w w' : World) : Prop := (∃ xs, RefL base g xs w' ∧ Same f xs) ∧ Below base w w' ∧ Rolls42 w w'

theorem own_kept_set {w : World} {base : Nat} {v : Value} {n : Nat} {ys : List Value} {g : Nat} {cs : Array Value} (h : w.ownsRow base 3 1 v n ys) (hb : Blk w g 44 cs) (i : Nat) (u : Value) : (w.setCell ⟨g, i, none⟩ u).ownsRow base 3 1 v n ys :=
  h.kept (only_setCell (only_refl w (some g)) (.inl rfl) u) (.inr (own_blk_ne h hb (by decide)))

/-- The end of Enter and Leave: the new list's row is stored in the roll. -/
theorem ref_stored {base g : Nat} {f : Nat → Bool} {xs : List Int} {w w1 : World} {v' : Value} {cs : Array Value} (hg : base ≤ g) (hs : Same f xs) (hb : Blk w1 g 44 cs) (hc : cs.size = 1) (ho : w1.ownsRow base 3 1 v' xs.length (xs.map (Value.int .i64)))
    (hbel : Below base w w1) (hr : Rolls42 w w1) : RefDone base g f w (w1.setCell ⟨g, 0, none⟩ v') := by
  refine ⟨⟨xs, ⟨hg, v', ?_, own_kept_set ho hb _ _⟩, hs⟩, hbel.setCell hg _, fun b t cs' h44 h3 h => (hr b t cs' h44 h3 h).far ((hr b t cs' h44 h3 h).ne_ hb h44) _⟩
  have e : cs.setIfInBounds 0 v' = #[v'] := by
    obtain ⟨l⟩ := cs
    match l, hc with
    | [c], _ => rfl
  rw [← e]
  exact hb.set_ 0 v'

set_option maxHeartbeats 1000000 in
theorem ref_enter (base g : Nat) (f : Nat → Bool) (xs : List Int) (j : Int) (w : World) (h : RefL base g xs w) (hs : Same f xs) (hbase : base ≤ w.heap.size) :
    Calls Try.prog 12 #[.pointer (some ⟨g, 0, none⟩), .int .i64 j] w fun e w' => e = .returned (.int .i64 (turnR f j true)) ∧ RefDone base g (turnS f j true) w w' := by
  have HN : RefDone base g f w w := ⟨⟨xs, h, hs⟩, Below.refl _ _, fun _ _ _ _ _ h => h⟩
  by_cases h1 : j < 0
  · obtain ⟨e1, e2⟩ := turnR_out f j true (.inl h1)
    rw [e1, e2]
    clear e1 e2 h hs
    go_enter Try.func12, Try.ntmps12
    go_wp2_with fail
    go_ret
    exact ⟨rfl, HN⟩
  · by_cases h2 : 8 ≤ j
    · obtain ⟨e1, e2⟩ := turnR_out f j true (.inr h2)
      rw [e1, e2]
      clear e1 e2 h hs
      go_enter Try.func12, Try.ntmps12
      go_wp2_with fail
      go_ret
      exact ⟨rfl, HN⟩
    · obtain ⟨k, rfl⟩ := Int.eq_ofNat_of_zero_le (show 0 ≤ j by omega)
      have hk : k < 8 := by omega
      have hl := hs.len
      have HS := Lib.hid hs; clear hs
      have H := Lib.hid h; clear h
      go_enter Try.func12, Try.ntmps12
      go_wp2_with fail
      refine (place_any base g xs k _ H.out hl).mono ?_; rintro e w' ⟨p, rfl, rfl, ⟨rfl, hn⟩ | ⟨q, rfl, hq⟩⟩
      · have hf : ¬ f k = true := fun hh => hn ((HS.out.mem hk).2 hh)
        obtain ⟨e1, e2⟩ := turnR_done f k true hk hf
        have E1 := Lib.hid e1; clear e1
        have E2 := Lib.hid e2; clear e2
        have HNN := Lib.hid hn; clear hn hf
        obtain ⟨hg, v, hb, ho⟩ := H.out
        have hv : ∃ A c, v = .slice A xs.length c := by
          obtain ⟨A, c, e, _⟩ := own_form ho
          exact ⟨A, c, e⟩
        obtain ⟨A, c, rfl⟩ := hv
        have c0 : w.cell? ⟨g, 0, none⟩ = some (.slice A xs.length c) := hb.cell 0
        obtain ⟨i0, hi0, hz0, hz1, hz2⟩ := info_parts A_info3
        have HB := Lib.hid hb; clear hb
        have HO := Lib.hid ho; clear ho
        go_wp2_with (first | (at_builtin; refine wpList_append_own _ rfl _ _ 37 rfl base 3 i0 (.int .i64 0) 1 8 Try.underlying37 hi0 hz0 hz1 hz2 rfl (by decide) _ _ _ rfl (HO.out.alloc _) ⟨w.heap.size, 0, none⟩ 1 1 [.int .i64 (k : Int)] rfl rfl ?c1 ?c2 ?c3 ?c4 ?c5 ?_))
        case c1 => exact cell_one_new _ _ _
        case c2 => exact ints_oneCell _ [(k : Int)]
        case c3 => unfold maxLen; omega
        case c4 => omega
        case c5 => simp; omega
        intro v' w1 hown' hgrow _
        have hv' : ∃ A c, v' = .slice A (xs.length + 1) c := by
          obtain ⟨A, c, e, _⟩ := own_form hown'
          exact ⟨A, c, e⟩
        obtain ⟨A', c', hv'⟩ := hv'
        rw [hv'] at hown' ⊢
        clear hv'
        have hb1 : Blk w1 g 44 #[.slice A xs.length c] := (HB.out.alloc _).grown hgrow (fun e => own_blk_ne HO.out HB.out (by decide) e.symm)
        have c1 : w1.cell? ⟨g, 0, none⟩ = some (.slice A xs.length c) := hb1.cell 0
        have f1 := hb1.frozen 0
        have HB1 := Lib.hid hb1; clear hb1
        have HO1 := Lib.hid hown'; clear hown'
        have HG := Lib.hid hgrow; clear hgrow
        go_wp2_with fail
        go_ret
        refine ⟨r_int E1.out.symm, ?_⟩
        rw [E2.out]
        refine ref_stored hg (HS.out.enter hk HNN.out) HB1.out rfl (by simpa using HO1.out) (((Below.refl base w).alloc hbase _).grown HG.out (by simp; omega) (fun b hb => (HO.out.lt b hb).1)) (fun b t cs h44 h3 hh => (hh.alloc _).grown HG.out (fun e => own_blk_ne HO.out hh (Ne.symm h3) e.symm))
      · have hf : f k = true := (HS.out.mem hk).1 (List.mem_of_getElem? hq)
        obtain ⟨e1, e2⟩ := turnR_same f k true hk hf
        have E1 := Lib.hid e1; clear e1
        have E2 := Lib.hid e2; clear e2 hf hq
        go_wp2_with fail
        go_ret
        exact ⟨r_int E1.out.symm, by rw [E2.out]; exact HN⟩

end Go.Proofs.Ytogcjflppjebfaa
