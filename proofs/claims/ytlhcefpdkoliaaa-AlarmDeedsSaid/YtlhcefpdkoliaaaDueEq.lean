/- The walks of due and of EqInts; the timers as the laws have them. -/
import Derived.Test.YtlhcefpdkoliaaaTick
namespace Go.Proofs.Ytlhcefpdkoliaaa
open Go.ChangeShapes Go.WideShapes Go.ChangeAt Go.RowKit Go.Deep Go.Maps

/-- The slice value v reads as the list xs. -/
def IL (w : World) (v : Value) (xs : List Int) : Prop := ∃ A c, v = .slice A xs.length c ∧ ∀ i, i < xs.length → ∃ b off, A = some ⟨b, off, none⟩ ∧ b < w.heap.size ∧ w.cell? ⟨b, off + i, none⟩ = some (.int .i64 (xs.getD i 0))
theorem IL.of_own {w : World} {base : Nat} {v : Value} {xs : List Int} (h : w.ownsRow base 3 1 v xs.length (xs.map (Value.int .i64))) : IL w v xs := by
  obtain ⟨A, c, e, _, _, hc⟩ := own_form h
  refine ⟨A, c, e, fun i hi => ?_⟩
  obtain ⟨g, e1, _, h2, h3⟩ := hc i hi
  refine ⟨g, 0, e1, h2, ?_⟩
  rw [Nat.zero_add, h3, List.getElem?_map, List.getElem?_eq_getElem hi]
  simp [List.getD, List.getElem?_eq_getElem hi]
theorem IL.below {w w' : World} {v : Value} {xs : List Int} (h : IL w v xs) (hb : Below w.heap.size w w') : IL w' v xs := by
  obtain ⟨A, c, e, hc⟩ := h
  refine ⟨A, c, e, fun i hi => ?_⟩
  obtain ⟨b, off, e1, h2, h3⟩ := hc i hi
  exact ⟨b, off, e1, Nat.lt_of_lt_of_le h2 hb.size, (hb.cell (p := ⟨b, off + i, none⟩) h2).trans h3⟩
theorem IL.drewN {w : World} {v : Value} {xs : List Int} (h : IL w v xs) (n : Nat) : IL (w.drewN n) v xs := h.below (below_draws (Below.refl _ _) n)
theorem IL.alloc {w : World} {v : Value} {xs : List Int} (h : IL w v xs) (o : Obj) : IL (w.alloc o) v xs := h.below ((Below.refl _ _).alloc (Nat.le_refl _) o)
theorem IL.map {w w' : World} {v : Value} {xs : List Int} {m n : Nat} {f : Nat → Int} (h : IL w v xs) (hm : AM m n f w) (hg : w.grownBy w' (some m)) : IL w' v xs := by
  obtain ⟨A, c, e, hc⟩ := h
  refine ⟨A, c, e, fun i hi => ?_⟩
  obtain ⟨b, off, e1, h2, h3⟩ := hc i hi
  have hne : b ≠ m := by
    rintro rfl
    obtain ⟨D, ⟨es, clock, hb, _⟩, _⟩ := hm
    simp [World.cell?, hb] at h3
  exact ⟨b, off, e1, Nat.lt_of_lt_of_le h2 hg.size, (World.cell?_of_block (hg.block b h2 (fun e => hne (by injection e)))).trans h3⟩
theorem IL.lit1 (w : World) (a : Int) : IL (w.alloc (.cells #[.int .i64 a] 3)) (.slice (some ⟨w.heap.size, 0, none⟩) 1 1) [a] := by
  refine ⟨_, 1, rfl, fun i hi => ⟨w.heap.size, 0, rfl, by simp, ?_⟩⟩
  obtain rfl : i = 0 := by simpa using hi
  exact (Blk.new w 3 #[.int .i64 a]).cell 0
theorem IL.lit2 (w : World) (a b : Int) : IL (w.alloc (.cells #[.int .i64 a, .int .i64 b] 3)) (.slice (some ⟨w.heap.size, 0, none⟩) 2 2) [a, b] := by
  refine ⟨_, 2, rfl, fun i hi => ⟨w.heap.size, 0, rfl, by simp, ?_⟩⟩
  rw [(Blk.new w 3 #[.int .i64 a, .int .i64 b]).cell (0 + i)]
  match i, hi with
  | 0, _ => rfl
  | 1, _ => rfl
theorem IL.nil (w : World) : IL w (.slice none 0 0) [] := ⟨none, 0, rfl, fun i hi => absurd hi (by simp)⟩

theorem eq_of_getD {xs ys : List Int} (hl : xs.length = ys.length) (h : ∀ i, i < xs.length → xs.getD i 0 = ys.getD i 0) : xs = ys := by
  apply List.ext_getElem hl
  intro i h1 h2
  have := h i h1
  simpa [List.getD, List.getElem?_eq_getElem h1, List.getElem?_eq_getElem h2] using this

set_option maxHeartbeats 1000000 in
/-- EqInts: are they the same? -/
theorem eq_any (v u : Value) (xs ys : List Int) (w : World) (hv : IL w v xs) (hu : IL w u ys) (h1 : xs.length ≤ 1000000) (_h2 : ys.length ≤ 1000000) :
    Calls Try.prog 14 #[v, u] w fun e w' => e = .returned (.bool (xs == ys)) ∧ ∃ nq, w' = w.drewN nq := by
  obtain ⟨A, c, rfl, hA⟩ := hv
  obtain ⟨B, d, rfl, hB⟩ := hu
  have HA := Lib.hid hA; clear hA
  have HB := Lib.hid hB; clear hB
  by_cases hl : xs.length = ys.length
  · have HL := Lib.hid hl
    rw [← hl]
    clear hl
    have HN : Hid (∃ n, n = xs.length) := Lib.hid ⟨_, rfl⟩
    obtain ⟨n, hn⟩ := HN.out
    rw [← hn] at h1 ⊢
    have HNN := Lib.hid hn; clear hn
    go_enter Try.func14, Try.ntmps14
    go_wp2
    go_loopw [5] (fun i wr => ∃ k nq : Nat, k ≤ n ∧ i = .int .i64 k ∧ (∀ j, j < k → xs.getD j 0 = ys.getD j 0) ∧ wr = w.drewN nq) (fun i _ => n - (intOf i).toNat)
    case atStart => exact ⟨0, 0, by omega, rfl, fun j hj => absurd hj (by omega), rfl⟩
    case round =>
      obtain ⟨k, nq, hk, rfl, hq, rfl⟩ := hrel
      have HQ := Lib.hid hq; clear hq
      by_cases hlt : k < n
      · obtain ⟨b1, o1, rfl, _, c1⟩ := HA.out k (by have := HNN.out; omega)
        obtain ⟨b2, o2, rfl, _, c2⟩ := HB.out k (by have := HNN.out; have := HL.out; omega)
        obtain ⟨x, hx⟩ : ∃ x, xs.getD k 0 = x := ⟨_, rfl⟩
        obtain ⟨y, hy⟩ : ∃ y, ys.getD k 0 = y := ⟨_, rfl⟩
        rw [hx] at c1
        rw [hy] at c2
        have HX := Lib.hid hx; clear hx
        have HY := Lib.hid hy; clear hy
        have q1 : (0 : Int) ≤ (k : Int) := by omega
        have q2 : (k : Int) < (n : Int) := by omega
        by_cases he : x = y
        · have hne : (x != y) = false := by simp [he]
          have HE := Lib.hid he; clear he
          go_wp2_with fail
          go_quiet (fail)
          go_wp2_with fail
          go_roundw
          case rel =>
            refine ⟨k + 1, _, by omega, by go_num, fun j hj => ?_, rfl⟩
            by_cases hjk : j = k
            · subst hjk; rw [HX.out, HY.out, HE.out]
            · exact HQ.out j (by omega)
          case measure => simp [intOf]; omega
        · have hne : (x != y) = true := by simp [he]
          have HE := Lib.hid he; clear he
          go_wp2_with fail
          go_quiet (fail)
          go_wp2_with fail
          go_ret
          refine ⟨r_bool ?_, _, World.drewN_drewN _ _ _⟩
          symm
          rw [beq_eq_false_iff_ne]
          intro e
          subst e
          exact HE.out (HX.out.symm.trans HY.out)
      · go_wp2_with fail
        go_ret
        refine ⟨r_bool ?_, _, rfl⟩
        symm
        rw [beq_iff_eq]
        exact eq_of_getD HL.out (fun i hi => HQ.out i (by have := HNN.out; omega))
  · have hne : ((xs.length : Int) != (ys.length : Int)) = true := by simp; omega
    have HL := Lib.hid hl; clear hl
    go_enter Try.func14, Try.ntmps14
    go_wp2
    go_ret
    refine ⟨r_bool ?_, 0, rfl⟩
    symm
    rw [beq_eq_false_iff_ne]
    intro e
    exact HL.out (by rw [e])

/-! ### One set of timers, and what lay below ahead of it is as it was -/
def S1 (w0 : World) (g m n : Nat) (f : Nat → Int) (w : World) : Prop := Below w0.heap.size w0 w ∧ w0.heap.size ≤ g ∧ w0.heap.size ≤ m ∧ AK g m n f w
section
variable {w0 w w' : World} {g m n : Nat} {f f' : Nat → Int}
theorem S1.keep (h : S1 w0 g m n f w) (ha : AK g m n f' w') (hg : w.grownBy w' (some m)) : S1 w0 g m n f' w' :=
  ⟨h.1.grown hg (by have := h.1.size; omega) (fun j hj => by injection hj with hj; have := h.2.2.1; omega), h.2.1, h.2.2.1, ha⟩
theorem S1.drewN (h : S1 w0 g m n f w) (k : Nat) : S1 w0 g m n f (w.drewN k) := ⟨below_draws h.1 k, h.2.1, h.2.2.1, h.2.2.2.drewN k⟩
theorem S1.alloc (h : S1 w0 g m n f w) (o : Obj) : S1 w0 g m n f (w.alloc o) := ⟨h.1.alloc h.1.size o, h.2.1, h.2.2.1, h.2.2.2.alloc o⟩
theorem S1.congr (h : S1 w0 g m n f w) (e : ∀ k, k < n → f k = f' k) : S1 w0 g m n f' w := ⟨h.1, h.2.1, h.2.2.1, h.2.2.2.congr e⟩
/-- due: who is due; a tick has passed. -/
theorem due_any (h : AK g m n f w) : Calls Try.prog 13 #[.pointer (some ⟨g, 0, none⟩)] w fun e w' => ∃ v, e = .returned v ∧ IL w' v (dueL f n) ∧ AK g m n (tk f) w' ∧ w.grownBy w' (some m) := by
  have H := Lib.hid h; clear h
  go_enter Try.func13, Try.ntmps13
  go_wp2_with fail
  refine (tick_any g m n f _ H.out).mono ?_; rintro e w' ⟨v, rfl, h1, h2, h3⟩
  have H1 := Lib.hid h1; clear h1
  have H2 := Lib.hid h2; clear h2
  have H3 := Lib.hid h3; clear h3
  go_wp2_with fail
  go_ret
  exact ⟨_, rfl, IL.of_own H1.out, H2.out, H3.out⟩
end
end Go.Proofs.Ytlhcefpdkoliaaa
