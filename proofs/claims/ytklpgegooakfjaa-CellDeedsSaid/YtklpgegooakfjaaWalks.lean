/- The walks of the layer 7 (cell): the program's cell and the reference's, each function once. -/
import Derived.Test.YtklpgegooakfjaaKit
namespace Go.Proofs.Ytklpgegooakfjaa
open Go.ChangeShapes Go.WideShapes Go.ChangeAt Go.RowKit Go.Deep

/-- The program's cell: how it stands (1 up, 2 ahead, 3 behind, 4 down; 0 is none), and what is kept. -/
def cl (st k : Int) : Array Value := #[.int .i64 st, .int .i64 k]
/-- Block g is the program's cell; what lay below ahead of it is as it was. -/
def C (w0 : World) (g : Nat) (st k : Int) (w : World) : Prop := Below w0.heap.size w0 w ∧ w0.heap.size ≤ g ∧ Blk w g 41 (cl st k)
/-- The frame of a call that changes block g alone. -/
def Fr (g : Nat) (w w' : World) : Prop := w.grownBy w' (some g)

theorem how_any (g : Nat) (st k : Int) (w : World) (h : Blk w g 41 (cl st k)) : Calls Try.prog 19 #[.pointer (some ⟨g, 0, none⟩)] w fun e w' => e = .returned (.int .i64 st) ∧ w = w' := by
  have c0 : w.cell? ⟨g, 0, none⟩ = some (.int .i64 st) := h.cell 0
  clear h
  go_enter Try.func19, Try.ntmps19
  go_wp2
  go_ret
  exact ⟨rfl, rfl⟩
theorem how_nil (w : World) : Calls Try.prog 19 #[.pointer none] w fun e w' => e = .returned (.int .i64 0) ∧ w = w' := by
  go_enter Try.func19, Try.ntmps19
  go_wp2
  go_ret
  exact ⟨rfl, rfl⟩
theorem read_any (g : Nat) (st k : Int) (w : World) (h : Blk w g 41 (cl st k)) : Calls Try.prog 16 #[.pointer (some ⟨g, 0, none⟩)] w fun e w' => e = .returned (.int .i64 k) ∧ w = w' := by
  have c0 : w.cell? ⟨g, 1, none⟩ = some (.int .i64 k) := h.cell 1
  clear h
  go_enter Try.func16, Try.ntmps16
  go_wp2
  go_ret
  exact ⟨rfl, rfl⟩
theorem read_nil (w : World) : Calls Try.prog 16 #[.pointer none] w fun e w' => e = .returned (.int .i64 0) ∧ w = w' := by
  go_enter Try.func16, Try.ntmps16
  go_wp2
  go_ret
  exact ⟨rfl, rfl⟩
theorem down_any (g : Nat) (st k : Int) (r : Bool) (hr : (st == 4) = r) (w : World) (h : Blk w g 41 (cl st k)) : Calls Try.prog 17 #[.pointer (some ⟨g, 0, none⟩)] w fun e w' => e = .returned (.bool r) ∧ w = w' := by
  have H := Lib.hid h; clear h
  go_enter Try.func17, Try.ntmps17
  go_wp2_with fail
  refine (how_any g st k _ H.out).mono ?_; rintro e w' ⟨rfl, rfl⟩
  go_wp2_with fail
  go_ret
  exact ⟨rfl, rfl⟩
theorem down_nil (w : World) : Calls Try.prog 17 #[.pointer none] w fun e w' => e = .returned (.bool false) ∧ w = w' := by
  go_enter Try.func17, Try.ntmps17
  go_wp2_with fail
  refine (how_nil _).mono ?_; rintro e w' ⟨rfl, rfl⟩
  go_wp2_with fail
  go_ret
  exact ⟨rfl, rfl⟩

/-- What Write answers, and the cell then. -/
def wr (st k n : Int) : Int × Int × Int :=
  if st = 0 then (1, st, k) else if st = 4 then (80, st, k) else if n ≤ k ∨ 9007199254740991 < n then (9, st, k) else if st = 1 then (0, 1, n) else if st = 2 then (270, 4, k) else (270, 4, n)

theorem fr_set (w : World) (g i : Nat) (v : Value) : Fr g w (w.setCell ⟨g, i, none⟩ v) := only_setCell (only_refl _ _) (.inl rfl) _
theorem fr_refl (w : World) (g : Nat) : Fr g w w := only_refl _ _
theorem fr_set2 (w : World) (g i j : Nat) (v u : Value) : Fr g w ((w.setCell ⟨g, i, none⟩ v).setCell ⟨g, j, none⟩ u) := only_setCell (fr_set w g i v) (.inl rfl) _

set_option maxHeartbeats 1000000 in
theorem write_any (g : Nat) (st k n : Int) (w : World) (hst : st = 0 ∨ st = 1 ∨ st = 2 ∨ st = 3 ∨ st = 4) (h : Blk w g 41 (cl st k)) :
    Calls Try.prog 10 #[.pointer (some ⟨g, 0, none⟩), .int .i64 n] w fun e w' => e = .returned (.int .i64 (wr st k n).1) ∧ Blk w' g 41 (cl (wr st k n).2.1 (wr st k n).2.2) ∧ Fr g w w' := by
  have c1 : w.cell? ⟨g, 1, none⟩ = some (.int .i64 k) := h.cell 1
  have c0 : w.cell? ⟨g, 0, none⟩ = some (.int .i64 st) := h.cell 0
  have f1 := h.frozen 1
  have f0 := h.frozen 0
  have H := Lib.hid h; clear h
  rcases hst with rfl | rfl | rfl | rfl | rfl
  · go_enter Try.func10, Try.ntmps10
    go_wp2_with fail
    refine (how_any g _ k _ H.out).mono ?_; rintro e w' ⟨rfl, rfl⟩
    go_wp2_with fail
    go_ret
    exact ⟨rfl, H.out, fr_refl _ _⟩
  · by_cases h1 : n ≤ k
    · have e : wr 1 k n = (9, 1, k) := by simp [wr, h1]
      rw [e]; clear e
      go_enter Try.func10, Try.ntmps10
      go_wp2_with fail
      refine (how_any g _ k _ H.out).mono ?_; rintro e w' ⟨rfl, rfl⟩
      go_wp2_with fail
      go_ret
      exact ⟨rfl, H.out, fr_refl _ _⟩
    · by_cases h2 : 9007199254740991 < n
      · have e : wr 1 k n = (9, 1, k) := by simp [wr, h2]
        rw [e]; clear e
        go_enter Try.func10, Try.ntmps10
        go_wp2_with fail
        refine (how_any g _ k _ H.out).mono ?_; rintro e w' ⟨rfl, rfl⟩
        go_wp2_with fail
        go_ret
        exact ⟨rfl, H.out, fr_refl _ _⟩
      · have e : wr 1 k n = (0, 1, n) := by simp [wr, h1, h2]
        rw [e]; clear e
        go_enter Try.func10, Try.ntmps10
        go_wp2_with fail
        refine (how_any g _ k _ H.out).mono ?_; rintro e w' ⟨rfl, rfl⟩
        go_wp2_with fail
        go_ret
        exact ⟨rfl, (H.out.set_ 1 _), fr_set _ _ _ _⟩
  · by_cases h1 : n ≤ k
    · have e : wr 2 k n = (9, 2, k) := by simp [wr, h1]
      rw [e]; clear e
      go_enter Try.func10, Try.ntmps10
      go_wp2_with fail
      refine (how_any g _ k _ H.out).mono ?_; rintro e w' ⟨rfl, rfl⟩
      go_wp2_with fail
      go_ret
      exact ⟨rfl, H.out, fr_refl _ _⟩
    · by_cases h2 : 9007199254740991 < n
      · have e : wr 2 k n = (9, 2, k) := by simp [wr, h2]
        rw [e]; clear e
        go_enter Try.func10, Try.ntmps10
        go_wp2_with fail
        refine (how_any g _ k _ H.out).mono ?_; rintro e w' ⟨rfl, rfl⟩
        go_wp2_with fail
        go_ret
        exact ⟨rfl, H.out, fr_refl _ _⟩
      · have e : wr 2 k n = (270, 4, k) := by simp [wr, h1, h2]
        rw [e]; clear e
        go_enter Try.func10, Try.ntmps10
        go_wp2_with fail
        refine (how_any g _ k _ H.out).mono ?_; rintro e w' ⟨rfl, rfl⟩
        go_wp2_with fail
        go_ret
        exact ⟨rfl, (H.out.set_ 0 _), fr_set _ _ _ _⟩
  · by_cases h1 : n ≤ k
    · have e : wr 3 k n = (9, 3, k) := by simp [wr, h1]
      rw [e]; clear e
      go_enter Try.func10, Try.ntmps10
      go_wp2_with fail
      refine (how_any g _ k _ H.out).mono ?_; rintro e w' ⟨rfl, rfl⟩
      go_wp2_with fail
      go_ret
      exact ⟨rfl, H.out, fr_refl _ _⟩
    · by_cases h2 : 9007199254740991 < n
      · have e : wr 3 k n = (9, 3, k) := by simp [wr, h2]
        rw [e]; clear e
        go_enter Try.func10, Try.ntmps10
        go_wp2_with fail
        refine (how_any g _ k _ H.out).mono ?_; rintro e w' ⟨rfl, rfl⟩
        go_wp2_with fail
        go_ret
        exact ⟨rfl, H.out, fr_refl _ _⟩
      · have e : wr 3 k n = (270, 4, n) := by simp [wr, h1, h2]
        rw [e]; clear e
        go_enter Try.func10, Try.ntmps10
        go_wp2_with fail
        refine (how_any g _ k _ H.out).mono ?_; rintro e w' ⟨rfl, rfl⟩
        go_wp2_with fail
        go_ret
        exact ⟨rfl, ((H.out.set_ 1 _).set_ 0 _), fr_set2 _ _ _ _ _ _⟩
  · go_enter Try.func10, Try.ntmps10
    go_wp2_with fail
    refine (how_any g _ k _ H.out).mono ?_; rintro e w' ⟨rfl, rfl⟩
    go_wp2_with fail
    go_ret
    exact ⟨rfl, H.out, fr_refl _ _⟩
theorem write_nil (n : Int) (w : World) : Calls Try.prog 10 #[.pointer none, .int .i64 n] w fun e w' => e = .returned (.int .i64 1) ∧ w = w' := by
  go_enter Try.func10, Try.ntmps10
  go_wp2_with fail
  refine (how_nil _).mono ?_; rintro e w' ⟨rfl, rfl⟩
  go_wp2_with fail
  go_ret
  exact ⟨rfl, rfl⟩

/-- What Crash answers, and how the cell stands then. -/
def cr (st : Int) (b : Bool) : Int × Int := if st = 0 then (1, st) else if st = 4 then (80, st) else (0, if b = true then 3 else 2)
set_option maxHeartbeats 1000000 in
theorem crash_any (g : Nat) (st k : Int) (b : Bool) (w : World) (hst : st = 0 ∨ st = 1 ∨ st = 2 ∨ st = 3 ∨ st = 4) (h : Blk w g 41 (cl st k)) :
    Calls Try.prog 12 #[.pointer (some ⟨g, 0, none⟩), .bool b] w fun e w' => e = .returned (.int .i64 (cr st b).1) ∧ Blk w' g 41 (cl (cr st b).2 k) ∧ Fr g w w' := by
  have c0 : w.cell? ⟨g, 0, none⟩ = some (.int .i64 st) := h.cell 0
  have f0 := h.frozen 0
  have H := Lib.hid h; clear h
  rcases hst with rfl | rfl | rfl | rfl | rfl
  · go_enter Try.func12, Try.ntmps12
    go_wp2_with fail
    refine (how_any g _ k _ H.out).mono ?_; rintro e w' ⟨rfl, rfl⟩
    go_wp2_with fail
    go_ret
    exact ⟨rfl, H.out, fr_refl _ _⟩
  · cases b
    · go_enter Try.func12, Try.ntmps12
      go_wp2_with fail
      refine (how_any g _ k _ H.out).mono ?_; rintro e w' ⟨rfl, rfl⟩
      go_wp2_with fail
      go_ret
      exact ⟨rfl, H.out.set_ 0 _, fr_set _ _ _ _⟩
    · go_enter Try.func12, Try.ntmps12
      go_wp2_with fail
      refine (how_any g _ k _ H.out).mono ?_; rintro e w' ⟨rfl, rfl⟩
      go_wp2_with fail
      go_ret
      exact ⟨rfl, (H.out.set_ 0 _).set_ 0 _, fr_set2 _ _ _ _ _ _⟩
  · cases b
    · go_enter Try.func12, Try.ntmps12
      go_wp2_with fail
      refine (how_any g _ k _ H.out).mono ?_; rintro e w' ⟨rfl, rfl⟩
      go_wp2_with fail
      go_ret
      exact ⟨rfl, H.out.set_ 0 _, fr_set _ _ _ _⟩
    · go_enter Try.func12, Try.ntmps12
      go_wp2_with fail
      refine (how_any g _ k _ H.out).mono ?_; rintro e w' ⟨rfl, rfl⟩
      go_wp2_with fail
      go_ret
      exact ⟨rfl, (H.out.set_ 0 _).set_ 0 _, fr_set2 _ _ _ _ _ _⟩
  · cases b
    · go_enter Try.func12, Try.ntmps12
      go_wp2_with fail
      refine (how_any g _ k _ H.out).mono ?_; rintro e w' ⟨rfl, rfl⟩
      go_wp2_with fail
      go_ret
      exact ⟨rfl, H.out.set_ 0 _, fr_set _ _ _ _⟩
    · go_enter Try.func12, Try.ntmps12
      go_wp2_with fail
      refine (how_any g _ k _ H.out).mono ?_; rintro e w' ⟨rfl, rfl⟩
      go_wp2_with fail
      go_ret
      exact ⟨rfl, (H.out.set_ 0 _).set_ 0 _, fr_set2 _ _ _ _ _ _⟩
  · go_enter Try.func12, Try.ntmps12
    go_wp2_with fail
    refine (how_any g _ k _ H.out).mono ?_; rintro e w' ⟨rfl, rfl⟩
    go_wp2_with fail
    go_ret
    exact ⟨rfl, H.out, fr_refl _ _⟩
theorem crash_nil (b : Bool) (w : World) : Calls Try.prog 12 #[.pointer none, .bool b] w fun e w' => e = .returned (.int .i64 1) ∧ w = w' := by
  go_enter Try.func12, Try.ntmps12
  go_wp2_with fail
  refine (how_nil _).mono ?_; rintro e w' ⟨rfl, rfl⟩
  go_wp2_with fail
  go_ret
  exact ⟨rfl, rfl⟩

/-- What Start answers, and how the cell stands then. -/
def sr (st : Int) : Int × Int := if st = 0 then (1, st) else if st = 4 then (0, 1) else (80, st)
set_option maxHeartbeats 1000000 in
theorem start_any (g : Nat) (st k : Int) (w : World) (hst : st = 0 ∨ st = 1 ∨ st = 2 ∨ st = 3 ∨ st = 4) (h : Blk w g 41 (cl st k)) :
    Calls Try.prog 14 #[.pointer (some ⟨g, 0, none⟩)] w fun e w' => e = .returned (.int .i64 (sr st).1) ∧ Blk w' g 41 (cl (sr st).2 k) ∧ Fr g w w' := by
  have c0 : w.cell? ⟨g, 0, none⟩ = some (.int .i64 st) := h.cell 0
  have f0 := h.frozen 0
  have H := Lib.hid h; clear h
  rcases hst with rfl | rfl | rfl | rfl | rfl
  · go_enter Try.func14, Try.ntmps14
    go_wp2_with fail
    refine (how_any g _ k _ H.out).mono ?_; rintro e w' ⟨rfl, rfl⟩
    go_wp2_with fail
    go_ret
    exact ⟨rfl, H.out, fr_refl _ _⟩
  · go_enter Try.func14, Try.ntmps14
    go_wp2_with fail
    refine (how_any g _ k _ H.out).mono ?_; rintro e w' ⟨rfl, rfl⟩
    go_wp2_with fail
    go_ret
    exact ⟨rfl, H.out, fr_refl _ _⟩
  · go_enter Try.func14, Try.ntmps14
    go_wp2_with fail
    refine (how_any g _ k _ H.out).mono ?_; rintro e w' ⟨rfl, rfl⟩
    go_wp2_with fail
    go_ret
    exact ⟨rfl, H.out, fr_refl _ _⟩
  · go_enter Try.func14, Try.ntmps14
    go_wp2_with fail
    refine (how_any g _ k _ H.out).mono ?_; rintro e w' ⟨rfl, rfl⟩
    go_wp2_with fail
    go_ret
    exact ⟨rfl, H.out, fr_refl _ _⟩
  · go_enter Try.func14, Try.ntmps14
    go_wp2_with fail
    refine (how_any g _ k _ H.out).mono ?_; rintro e w' ⟨rfl, rfl⟩
    go_wp2_with fail
    go_ret
    exact ⟨rfl, H.out.set_ 0 _, fr_set _ _ _ _⟩
theorem start_nil (w : World) : Calls Try.prog 14 #[.pointer none] w fun e w' => e = .returned (.int .i64 1) ∧ w = w' := by
  go_enter Try.func14, Try.ntmps14
  go_wp2_with fail
  refine (how_nil _).mono ?_; rintro e w' ⟨rfl, rfl⟩
  go_wp2_with fail
  go_ret
  exact ⟨rfl, rfl⟩
theorem new_any (w : World) : Calls Try.prog 7 #[] w fun e w' => e = .returned (.pointer (some ⟨w.heap.size, 0, none⟩)) ∧ w' = w.alloc (.cells (cl 1 0) 41) := by
  go_enter Try.func7, Try.ntmps7
  go_wp2
  go_ret
  exact ⟨rfl, rfl⟩

/-! ### The reference's cell: kept, down, armed, behind -/
def rl (k : Int) (d a b : Bool) : Array Value := #[.int .i64 k, .bool d, .bool a, .bool b]
/-- It says the same as the program's. -/
def Agree (st : Int) (d a b : Bool) : Prop := (st = 1 ∧ d = false ∧ a = false) ∨ (st = 2 ∧ d = false ∧ a = true ∧ b = false) ∨ (st = 3 ∧ d = false ∧ a = true ∧ b = true) ∨ (st = 4 ∧ d = true ∧ a = false)
theorem ref_new (w : World) : Calls Try.prog 8 #[] w fun e w' => e = .returned (.pointer (some ⟨w.heap.size, 0, none⟩)) ∧ w' = w.alloc (.cells (rl 0 false false false) 36) := by
  go_enter Try.func8, Try.ntmps8
  go_wp2
  go_ret
  exact ⟨rfl, rfl⟩
/-- Block g is the reference's cell that agrees with (st, k). -/
def RC (g : Nat) (st k : Int) (w : World) : Prop := ∃ d a b, Agree st d a b ∧ Blk w g 36 (rl k d a b)
set_option maxHeartbeats 2000000 in
theorem ref_write (g : Nat) (st k n : Int) (w : World) (h : RC g st k w) :
    Calls Try.prog 11 #[.pointer (some ⟨g, 0, none⟩), .int .i64 n] w fun e w' => e = .returned (.int .i64 (wr st k n).1) ∧ RC g (wr st k n).2.1 (wr st k n).2.2 w' ∧ Fr g w w' := by
  obtain ⟨d, a, b, hag, hb⟩ := h
  have c0 : w.cell? ⟨g, 0, none⟩ = some (.int .i64 k) := hb.cell 0
  have c1 : w.cell? ⟨g, 1, none⟩ = some (.bool d) := hb.cell 1
  have c2 : w.cell? ⟨g, 2, none⟩ = some (.bool a) := hb.cell 2
  have c3 : w.cell? ⟨g, 3, none⟩ = some (.bool b) := hb.cell 3
  have f0 := hb.frozen 0
  have f1 := hb.frozen 1
  have f2 := hb.frozen 2
  have f3 := hb.frozen 3
  have H := Lib.hid hb; clear hb
  rcases hag with ⟨rfl, rfl, rfl⟩ | ⟨rfl, rfl, rfl, rfl⟩ | ⟨rfl, rfl, rfl, rfl⟩ | ⟨rfl, rfl, rfl⟩
  · by_cases h1 : n ≤ k
    · have e : wr 1 k n = (9, 1, k) := by simp [wr, h1]
      rw [e]; clear e
      go_enter Try.func11, Try.ntmps11
      go_wp2_with fail
      go_ret
      exact ⟨rfl, ⟨_, _, _, .inl ⟨rfl, rfl, rfl⟩, H.out⟩, fr_refl _ _⟩
    · by_cases h2 : 9007199254740991 < n
      · have e : wr 1 k n = (9, 1, k) := by simp [wr, h2]
        rw [e]; clear e
        go_enter Try.func11, Try.ntmps11
        go_wp2_with fail
        go_ret
        exact ⟨rfl, ⟨_, _, _, .inl ⟨rfl, rfl, rfl⟩, H.out⟩, fr_refl _ _⟩
      · have e : wr 1 k n = (0, 1, n) := by simp [wr, h1, h2]
        rw [e]; clear e
        go_enter Try.func11, Try.ntmps11
        go_wp2_with fail
        go_ret
        exact ⟨rfl, ⟨_, _, _, .inl ⟨rfl, rfl, rfl⟩, H.out.set_ 0 _⟩, fr_set _ _ _ _⟩
  · by_cases h1 : n ≤ k
    · have e : wr 2 k n = (9, 2, k) := by simp [wr, h1]
      rw [e]; clear e
      go_enter Try.func11, Try.ntmps11
      go_wp2_with fail
      go_ret
      exact ⟨rfl, ⟨_, _, _, .inr (.inl ⟨rfl, rfl, rfl, rfl⟩), H.out⟩, fr_refl _ _⟩
    · by_cases h2 : 9007199254740991 < n
      · have e : wr 2 k n = (9, 2, k) := by simp [wr, h2]
        rw [e]; clear e
        go_enter Try.func11, Try.ntmps11
        go_wp2_with fail
        go_ret
        exact ⟨rfl, ⟨_, _, _, .inr (.inl ⟨rfl, rfl, rfl, rfl⟩), H.out⟩, fr_refl _ _⟩
      · have e : wr 2 k n = (270, 4, k) := by simp [wr, h1, h2]
        rw [e]; clear e
        go_enter Try.func11, Try.ntmps11
        go_wp2_with fail
        go_ret
        exact ⟨rfl, ⟨_, _, _, .inr (.inr (.inr ⟨rfl, rfl, rfl⟩)), (H.out.set_ 1 _).set_ 2 _⟩, fr_set2 _ _ _ _ _ _⟩
  · by_cases h1 : n ≤ k
    · have e : wr 3 k n = (9, 3, k) := by simp [wr, h1]
      rw [e]; clear e
      go_enter Try.func11, Try.ntmps11
      go_wp2_with fail
      go_ret
      exact ⟨rfl, ⟨_, _, _, .inr (.inr (.inl ⟨rfl, rfl, rfl, rfl⟩)), H.out⟩, fr_refl _ _⟩
    · by_cases h2 : 9007199254740991 < n
      · have e : wr 3 k n = (9, 3, k) := by simp [wr, h2]
        rw [e]; clear e
        go_enter Try.func11, Try.ntmps11
        go_wp2_with fail
        go_ret
        exact ⟨rfl, ⟨_, _, _, .inr (.inr (.inl ⟨rfl, rfl, rfl, rfl⟩)), H.out⟩, fr_refl _ _⟩
      · have e : wr 3 k n = (270, 4, n) := by simp [wr, h1, h2]
        rw [e]; clear e
        go_enter Try.func11, Try.ntmps11
        go_wp2_with fail
        go_ret
        exact ⟨rfl, ⟨_, _, _, .inr (.inr (.inr ⟨rfl, rfl, rfl⟩)), ((H.out.set_ 0 _).set_ 1 _).set_ 2 _⟩, only_setCell (fr_set2 _ _ _ _ _ _) (.inl rfl) _⟩
  · go_enter Try.func11, Try.ntmps11
    go_wp2_with fail
    go_ret
    exact ⟨rfl, ⟨_, _, _, .inr (.inr (.inr ⟨rfl, rfl, rfl⟩)), H.out⟩, fr_refl _ _⟩
set_option maxHeartbeats 2000000 in
theorem ref_crash (g : Nat) (st k : Int) (v : Bool) (w : World) (h : RC g st k w) :
    Calls Try.prog 13 #[.pointer (some ⟨g, 0, none⟩), .bool v] w fun e w' => e = .returned (.int .i64 (cr st v).1) ∧ RC g (cr st v).2 k w' ∧ Fr g w w' := by
  obtain ⟨d, a, b, hag, hb⟩ := h
  have c1 : w.cell? ⟨g, 1, none⟩ = some (.bool d) := hb.cell 1
  have c2 : w.cell? ⟨g, 2, none⟩ = some (.bool a) := hb.cell 2
  have c3 : w.cell? ⟨g, 3, none⟩ = some (.bool b) := hb.cell 3
  have f2 := hb.frozen 2
  have f3 := hb.frozen 3
  have H := Lib.hid hb; clear hb
  rcases hag with ⟨rfl, rfl, rfl⟩ | ⟨rfl, rfl, rfl, rfl⟩ | ⟨rfl, rfl, rfl, rfl⟩ | ⟨rfl, rfl, rfl⟩
  · cases v
    · go_enter Try.func13, Try.ntmps13
      go_wp2_with fail
      go_ret
      exact ⟨rfl, ⟨_, _, _, .inr (.inl ⟨rfl, rfl, rfl, rfl⟩), (H.out.set_ 2 _).set_ 3 _⟩, fr_set2 _ _ _ _ _ _⟩
    · go_enter Try.func13, Try.ntmps13
      go_wp2_with fail
      go_ret
      exact ⟨rfl, ⟨_, _, _, .inr (.inr (.inl ⟨rfl, rfl, rfl, rfl⟩)), (H.out.set_ 2 _).set_ 3 _⟩, fr_set2 _ _ _ _ _ _⟩
  · cases v
    · go_enter Try.func13, Try.ntmps13
      go_wp2_with fail
      go_ret
      exact ⟨rfl, ⟨_, _, _, .inr (.inl ⟨rfl, rfl, rfl, rfl⟩), (H.out.set_ 2 _).set_ 3 _⟩, fr_set2 _ _ _ _ _ _⟩
    · go_enter Try.func13, Try.ntmps13
      go_wp2_with fail
      go_ret
      exact ⟨rfl, ⟨_, _, _, .inr (.inr (.inl ⟨rfl, rfl, rfl, rfl⟩)), (H.out.set_ 2 _).set_ 3 _⟩, fr_set2 _ _ _ _ _ _⟩
  · cases v
    · go_enter Try.func13, Try.ntmps13
      go_wp2_with fail
      go_ret
      exact ⟨rfl, ⟨_, _, _, .inr (.inl ⟨rfl, rfl, rfl, rfl⟩), (H.out.set_ 2 _).set_ 3 _⟩, fr_set2 _ _ _ _ _ _⟩
    · go_enter Try.func13, Try.ntmps13
      go_wp2_with fail
      go_ret
      exact ⟨rfl, ⟨_, _, _, .inr (.inr (.inl ⟨rfl, rfl, rfl, rfl⟩)), (H.out.set_ 2 _).set_ 3 _⟩, fr_set2 _ _ _ _ _ _⟩
  · go_enter Try.func13, Try.ntmps13
    go_wp2_with fail
    go_ret
    exact ⟨rfl, ⟨_, _, _, .inr (.inr (.inr ⟨rfl, rfl, rfl⟩)), H.out⟩, fr_refl _ _⟩
set_option maxHeartbeats 2000000 in
theorem ref_start (g : Nat) (st k : Int) (w : World) (h : RC g st k w) :
    Calls Try.prog 15 #[.pointer (some ⟨g, 0, none⟩)] w fun e w' => e = .returned (.int .i64 (sr st).1) ∧ RC g (sr st).2 k w' ∧ Fr g w w' := by
  obtain ⟨d, a, b, hag, hb⟩ := h
  have c1 : w.cell? ⟨g, 1, none⟩ = some (.bool d) := hb.cell 1
  have f1 := hb.frozen 1
  have H := Lib.hid hb; clear hb
  rcases hag with ⟨rfl, rfl, rfl⟩ | ⟨rfl, rfl, rfl, rfl⟩ | ⟨rfl, rfl, rfl, rfl⟩ | ⟨rfl, rfl, rfl⟩
  · go_enter Try.func15, Try.ntmps15
    go_wp2_with fail
    go_ret
    exact ⟨rfl, ⟨_, _, _, .inl ⟨rfl, rfl, rfl⟩, H.out⟩, fr_refl _ _⟩
  · go_enter Try.func15, Try.ntmps15
    go_wp2_with fail
    go_ret
    exact ⟨rfl, ⟨_, _, _, .inr (.inl ⟨rfl, rfl, rfl, rfl⟩), H.out⟩, fr_refl _ _⟩
  · go_enter Try.func15, Try.ntmps15
    go_wp2_with fail
    go_ret
    exact ⟨rfl, ⟨_, _, _, .inr (.inr (.inl ⟨rfl, rfl, rfl, rfl⟩)), H.out⟩, fr_refl _ _⟩
  · go_enter Try.func15, Try.ntmps15
    go_wp2_with fail
    go_ret
    exact ⟨rfl, ⟨_, _, _, .inl ⟨rfl, rfl, rfl⟩, H.out.set_ 1 _⟩, fr_set _ _ _ _⟩
end Go.Proofs.Ytklpgegooakfjaa
