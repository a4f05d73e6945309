/- Works and AlarmKnown: closed walks, call by call. Printed by gen_known.py. -/
import Derived.Test.YtlhcefpdkoliaaaDueEq
namespace Go.Proofs.Ytlhcefpdkoliaaa
open Go.ChangeShapes Go.WideShapes Go.ChangeAt Go.RowKit Go.Deep Go.Maps

/-- The ticks left, as a list. -/
def fl (l : List Int) : Nat → Int := fun k => l.getD k 0
def SL (w0 : World) (g m : Nat) (l : List Int) (w : World) : Prop := S1 w0 g m l.length (fl l) w
def sameL (n : Nat) (f : Nat → Int) (l : List Int) : Bool := (List.range n).all (fun k => f k == fl l k) && (l.length == n)
theorem SL.of {w0 : World} {g m n : Nat} {f : Nat → Int} {l : List Int} {w : World} (h : S1 w0 g m n f w) (hs : sameL n f l = true) : SL w0 g m l w := by
  unfold sameL at hs
  rw [Bool.and_eq_true, beq_iff_eq] at hs
  unfold SL
  rw [hs.2]
  exact h.congr (fun k hk => by
    have := List.all_eq_true.1 hs.1 k (List.mem_range.2 hk)
    simpa using this)
theorem SL.alloc {w0 : World} {g m : Nat} {l : List Int} {w : World} (h : SL w0 g m l w) (o : Obj) : SL w0 g m l (w.alloc o) := S1.alloc h o
theorem SL.drewN {w0 : World} {g m : Nat} {l : List Int} {w : World} (h : SL w0 g m l w) (n : Nat) : SL w0 g m l (w.drewN n) := S1.drewN h n
section
variable {w0 w : World} {g m : Nat}
theorem set_c (l l' : List Int) (j t r : Int) (hr : setR l.length j t = r) (hs : sameL l.length (setS l.length (fl l) j t) l' = true) (h : SL w0 g m l w) :
    Calls Try.prog 10 #[.pointer (some ⟨g, 0, none⟩), .int .i64 j, .int .i64 t] w fun e w' => e = .returned (.int .i64 r) ∧ SL w0 g m l' w' :=
  (set_any g m l.length (fl l) j t w h.2.2.2).mono fun e w' ⟨he, ha, hg⟩ => ⟨by rw [he, hr], SL.of (S1.keep h ha hg) hs⟩
theorem clear_c (l l' : List Int) (j r : Int) (hr : clearR l.length j = r) (hs : sameL l.length (clearS l.length (fl l) j) l' = true) (h : SL w0 g m l w) :
    Calls Try.prog 11 #[.pointer (some ⟨g, 0, none⟩), .int .i64 j] w fun e w' => e = .returned (.int .i64 r) ∧ SL w0 g m l' w' :=
  (clear_any g m l.length (fl l) j w h.2.2.2).mono fun e w' ⟨he, ha, hg⟩ => ⟨by rw [he, hr], SL.of (S1.keep h ha hg) hs⟩
theorem fire_c (l l' : List Int) (j r : Int) (hr : fireR l.length (fl l) j = r) (hs : sameL l.length (clearS l.length (fl l) j) l' = true) (h : SL w0 g m l w) :
    Calls Try.prog 12 #[.pointer (some ⟨g, 0, none⟩), .int .i64 j] w fun e w' => e = .returned (.int .i64 r) ∧ SL w0 g m l' w' :=
  (fire_any g m l.length (fl l) j w h.2.2.2).mono fun e w' ⟨he, ha, hg⟩ => ⟨by rw [he, hr], SL.of (S1.keep h ha hg) hs⟩
theorem left_c (l : List Int) (j r : Int) (hr : leftR l.length (fl l) j = r) (h : SL w0 g m l w) :
    Calls Try.prog 15 #[.pointer (some ⟨g, 0, none⟩), .int .i64 j] w fun e w' => e = .returned (.int .i64 r) ∧ w = w' :=
  (left_any g m l.length (fl l) j w h.2.2.2).mono fun e w' ⟨he, hw⟩ => ⟨by rw [he, hr], hw⟩
theorem due_c (l l' xs : List Int) (hx : dueL (fl l) l.length = xs) (hs : sameL l.length (tk (fl l)) l' = true) (h : SL w0 g m l w) :
    Calls Try.prog 13 #[.pointer (some ⟨g, 0, none⟩)] w fun e w' => ∃ v, e = .returned v ∧ IL w' v xs ∧ SL w0 g m l' w' :=
  (due_any h.2.2.2).mono fun e w' ⟨v, he, h1, h2, h3⟩ => ⟨v, he, by rw [← hx]; exact h1, SL.of (S1.keep h h2 h3) hs⟩
theorem new_c (w0 w : World) (n : Nat) (l : List Int) (h1 : 1 ≤ n) (h2 : n ≤ 16) (hs : sameL n (fun _ => 0) l = true) (h : Below w0.heap.size w0 w) :
    Calls Try.prog 9 #[.int .i64 (n : Int)] w fun e w' => e = .returned (.tuple #[.pointer (some ⟨w.heap.size + 1, 0, none⟩), .int .i64 0]) ∧ SL w0 (w.heap.size + 1) w.heap.size l w' :=
  (new_any n w h1 h2).mono fun e w' ⟨he, hw⟩ => ⟨he, by
    rw [hw]
    exact SL.of ⟨(h.alloc h.size _).alloc (by have := h.size; simp; omega) _, by have := h.size; omega, h.size, new_ak n w h1 h2⟩ hs⟩
end

/-! ### Timers that are none -/
/-- v is nil, or timers that New did not make. -/
def NoneAt (w0 : World) (v : Value) (w : World) : Prop := Below w0.heap.size w0 w ∧ (v = .pointer none ∨ ∃ g, v = .pointer (some ⟨g, 0, none⟩) ∧ Blk w g 42 #[.int .i64 0, .map none])
theorem check_n {w0 : World} {v : Value} {w : World} (j : Int) (h : NoneAt w0 v w) : Calls Try.prog 23 #[v, .int .i64 j] w fun e w' => e = .returned (.int .i64 1) ∧ w = w' := by
  obtain ⟨_, rfl | ⟨g, rfl, hb⟩⟩ := h
  · exact check_nil j w
  · exact check_zero g j _ w hb
theorem set_n {w0 : World} {v : Value} {w : World} (j t : Int) (h : NoneAt w0 v w) : Calls Try.prog 10 #[v, .int .i64 j, .int .i64 t] w fun e w' => e = .returned (.int .i64 1) ∧ w = w' := by
  go_enter Try.func10, Try.ntmps10
  go_wp2_with fail
  refine (check_n _ h).mono ?_; rintro e w' ⟨rfl, rfl⟩
  go_wp2_with fail
  go_ret
  exact ⟨rfl, rfl⟩
theorem clear_n {w0 : World} {v : Value} {w : World} (j : Int) (h : NoneAt w0 v w) : Calls Try.prog 11 #[v, .int .i64 j] w fun e w' => e = .returned (.int .i64 1) ∧ w = w' := by
  go_enter Try.func11, Try.ntmps11
  go_wp2_with fail
  refine (check_n _ h).mono ?_; rintro e w' ⟨rfl, rfl⟩
  go_wp2_with fail
  go_ret
  exact ⟨rfl, rfl⟩
theorem fire_n {w0 : World} {v : Value} {w : World} (j : Int) (h : NoneAt w0 v w) : Calls Try.prog 12 #[v, .int .i64 j] w fun e w' => e = .returned (.int .i64 1) ∧ w = w' := by
  go_enter Try.func12, Try.ntmps12
  go_wp2_with fail
  refine (check_n _ h).mono ?_; rintro e w' ⟨rfl, rfl⟩
  go_wp2_with fail
  go_ret
  exact ⟨rfl, rfl⟩
theorem left_n {w0 : World} {v : Value} {w : World} (j : Int) (h : NoneAt w0 v w) : Calls Try.prog 15 #[v, .int .i64 j] w fun e w' => e = .returned (.int .i64 0) ∧ w = w' := by
  go_enter Try.func15, Try.ntmps15
  go_wp2_with fail
  refine (check_n _ h).mono ?_; rintro e w' ⟨rfl, rfl⟩
  go_wp2_with fail
  go_ret
  exact ⟨rfl, rfl⟩
theorem tick_n {w0 : World} {v : Value} {w : World} (h : NoneAt w0 v w) : Calls Try.prog 16 #[v] w fun e w' => e = .returned (.tuple #[.slice none 0 0, .int .i64 1]) ∧ w = w' := by
  go_enter Try.func16, Try.ntmps16
  go_wp2_with fail
  refine (check_n _ h).mono ?_; rintro e w' ⟨rfl, rfl⟩
  go_wp2_with fail
  go_ret2
  exact ⟨rfl, rfl⟩

set_option maxRecDepth 100000 in
set_option maxHeartbeats 4000000 in
theorem works_any (w : World) : Calls Try.prog 7 #[] w fun e w' => e = .returned (.bool true) ∧ Below w.heap.size w w' := by
  go_enter Try.func7, Try.ntmps7
  go_wp2_with fail
  refine (new_c w w 4 [0, 0, 0, 0] (by omega) (by omega) (by decide) (Below.refl _ _)).mono ?_; rintro e w' ⟨rfl, hs0⟩
  go_wp2_with fail
  refine (set_c [0, 0, 0, 0] [0, 0, 2, 0] 2 2 0 (by decide) (by decide) hs0).mono ?_; rintro e w' ⟨rfl, hs1⟩; clear hs0
  go_wp2_with fail
  refine (set_c [0, 0, 2, 0] [2, 0, 2, 0] 0 2 0 (by decide) (by decide) hs1).mono ?_; rintro e w' ⟨rfl, hs2⟩; clear hs1
  go_wp2_with fail
  refine (set_c [2, 0, 2, 0] [2, 0, 2, 1] 3 1 0 (by decide) (by decide) hs2).mono ?_; rintro e w' ⟨rfl, hs3⟩; clear hs2
  go_wp2_with fail
  refine (due_c [2, 0, 2, 1] [1, 0, 1, 0] [3] (by decide) (by decide) hs3).mono ?_; rintro e w' ⟨v, rfl, hv, hs4⟩; clear hs3
  go_wp2_with fail
  have hl := IL.lit1 w' 3
  have hs5 := hs4.alloc (.cells #[.int .i64 3] 3)
  refine (eq_any _ _ [3] [3] _ (hv.alloc _) hl (by decide) (by decide)).mono ?_; rintro e w' ⟨rfl, nq, rfl⟩; clear hl hv hs4
  have hs6 := hs5.drewN nq; clear hs5
  go_wp2_with fail
  refine (left_c [1, 0, 1, 0] 2 1 (by decide) hs6).mono ?_; rintro e w' ⟨rfl, rfl⟩
  go_wp2_with fail
  refine (due_c [1, 0, 1, 0] [0, 0, 0, 0] [0, 2] (by decide) (by decide) hs6).mono ?_; rintro e w' ⟨v, rfl, hv, hs7⟩; clear hs6
  go_wp2_with fail
  have hl := IL.lit2 w' 0 2
  have hs8 := hs7.alloc (.cells #[.int .i64 0, .int .i64 2] 3)
  refine (eq_any _ _ [0, 2] [0, 2] _ (hv.alloc _) hl (by decide) (by decide)).mono ?_; rintro e w' ⟨rfl, nq, rfl⟩; clear hl hv hs7
  have hs9 := hs8.drewN nq; clear hs8
  go_wp2_with fail
  refine (left_c [0, 0, 0, 0] 2 0 (by decide) hs9).mono ?_; rintro e w' ⟨rfl, rfl⟩
  go_wp2_with fail
  refine (due_c [0, 0, 0, 0] [0, 0, 0, 0] [] (by decide) (by decide) hs9).mono ?_; rintro e w' ⟨v, rfl, hv, hs10⟩; clear hs9
  obtain ⟨A, c, rfl, _⟩ := hv
  go_wp2_with fail
  go_ret
  exact ⟨rfl, hs10.1⟩

end Go.Proofs.Ytlhcefpdkoliaaa
