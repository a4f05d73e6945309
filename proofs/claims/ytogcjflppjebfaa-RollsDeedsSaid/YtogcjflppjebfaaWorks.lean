/- Works and RollsKnown: closed walks, call by call. Printed by gen_known.py. -/
import Derived.Test.YtogcjflppjebfaaWalks
namespace Go.Proofs.Ytogcjflppjebfaa
open Go.ChangeShapes Go.WideShapes Go.ChangeAt Go.RowKit Go.Deep

/-- The groups whose bits are in n. -/
def bt (n : Nat) : Nat → Bool := fun k => n.testBit k
/-- A begun roll in block g with the groups n; what lay below B ahead of it is as it was. -/
def RollAt (w0 : World) (B g n : Nat) (w : World) : Prop := Below B w0 w ∧ B ≤ g ∧ Blk w g 42 (rollCells true (bt n))
theorem below_only {B g : Nat} {w0 w w' : World} (h : Below B w0 w) (o : w.grownBy w' (some g)) (hg : B ≤ g) (hB : B ≤ w0.heap.size) : Below B w0 w' :=
  h.grown o (by have := h.size; omega) (fun j hj => by injection hj with hj; omega)
theorem roll_eq {f f' : Nat → Bool} (bg : Bool) (h : (List.range 8).all (fun k => f k == f' k) = true) : rollCells bg f = rollCells bg f' := by
  have e : ∀ k, k < 8 → f k = f' k := fun k hk => by
    have := List.all_eq_true.1 h k (List.mem_range.2 hk)
    simpa using this
  simp only [rollCells, e 0 (by omega), e 1 (by omega), e 2 (by omega), e 3 (by omega), e 4 (by omega), e 5 (by omega), e 6 (by omega), e 7 (by omega)]

theorem enter_c (n m : Nat) (j r : Int) (hr : turnR (bt n) j true = r) (hs : (List.range 8).all (fun k => turnS (bt n) j true k == bt m k) = true) {w0 : World} {g : Nat} {w : World} (h : RollAt w0 w0.heap.size g n w) :
    Calls Try.prog 9 #[.pointer (some ⟨g, 0, none⟩), .int .i64 j] w fun e w' => e = .returned (.int .i64 r) ∧ RollAt w0 w0.heap.size g m w' :=
  (enter_any g (bt n) j w h.2.2).mono fun e w' ⟨he, hb, ho, _⟩ => ⟨by rw [he, hr], below_only h.1 ho h.2.1 (Nat.le_refl _), h.2.1, by rw [← roll_eq _ hs]; exact hb⟩
theorem leave_c (n m : Nat) (j r : Int) (hr : turnR (bt n) j false = r) (hs : (List.range 8).all (fun k => turnS (bt n) j false k == bt m k) = true) {w0 : World} {g : Nat} {w : World} (h : RollAt w0 w0.heap.size g n w) :
    Calls Try.prog 10 #[.pointer (some ⟨g, 0, none⟩), .int .i64 j] w fun e w' => e = .returned (.int .i64 r) ∧ RollAt w0 w0.heap.size g m w' :=
  (leave_any g (bt n) j w h.2.2).mono fun e w' ⟨he, hb, ho, _⟩ => ⟨by rw [he, hr], below_only h.1 ho h.2.1 (Nat.le_refl _), h.2.1, by rw [← roll_eq _ hs]; exact hb⟩
theorem groups_c (n : Nat) {w0 : World} {g : Nat} {w : World} (h : RollAt w0 w0.heap.size g n w) (hn : gsum (bt n) 8 = n := by decide) :
    Calls Try.prog 13 #[.pointer (some ⟨g, 0, none⟩)] w fun e w' => e = .returned (.int .i64 (n : Int)) ∧ w = w' :=
  (groups_any g true (bt n) w h.2.2).mono fun e w' ⟨he, hw⟩ => ⟨by rw [he, hn], hw⟩
theorem wants_c (n : Nat) (m : Int) (r : Bool) (hr : wantsB (gsum (bt n) 8) m = r) {w0 : World} {g : Nat} {w : World} (h : RollAt w0 w0.heap.size g n w) :
    Calls Try.prog 15 #[.pointer (some ⟨g, 0, none⟩), .int .i64 m] w fun e w' => e = .returned (.bool r) ∧ w = w' :=
  (wants_any g true (bt n) m w h.2.2).mono fun e w' ⟨he, hw⟩ => ⟨by rw [he, hr], hw⟩
theorem new_c (w0 w : World) (h : Below w0.heap.size w0 w) :
    Calls Try.prog 7 #[] w fun e w' => e = .returned (.pointer (some ⟨w.heap.size, 0, none⟩)) ∧ RollAt w0 w0.heap.size w.heap.size 0 w' :=
  (new_any w).mono fun e w' ⟨he, hw⟩ => ⟨he, by rw [hw]; exact h.alloc h.size _, h.size, by rw [hw]; exact Blk.new _ _ _⟩

set_option maxHeartbeats 1000000 in
theorem works_any (w : World) : Calls Try.prog 17 #[] w fun e w' => e = .returned (.bool true) ∧ Below w.heap.size w w' := by
  go_enter Try.func17, Try.ntmps17
  go_wp2_with fail
  refine (new_c w w (Below.refl _ _)).mono ?_; rintro e w' ⟨rfl, hr⟩
  go_wp2_with fail
  refine (enter_c 0 8 3 0 (by decide) (by decide) hr).mono ?_; rintro e w' ⟨rfl, hr1⟩; clear hr
  go_wp2_with fail
  refine (enter_c 8 8 3 80 (by decide) (by decide) hr1).mono ?_; rintro e w' ⟨rfl, hr2⟩; clear hr1
  go_wp2_with fail
  refine (enter_c 8 9 0 0 (by decide) (by decide) hr2).mono ?_; rintro e w' ⟨rfl, hr3⟩; clear hr2
  go_wp2_with fail
  refine (groups_c 9 hr3).mono ?_; rintro e w' ⟨rfl, rfl⟩
  go_wp2_with fail
  refine (wants_c 9 8 true (by decide +kernel) hr3).mono ?_; rintro e w' ⟨rfl, rfl⟩
  go_wp2_with fail
  refine (wants_c 9 6 false (by decide +kernel) hr3).mono ?_; rintro e w' ⟨rfl, rfl⟩
  go_wp2_with fail
  refine (wants_c 9 (-1) true (by decide +kernel) hr3).mono ?_; rintro e w' ⟨rfl, rfl⟩
  go_wp2_with fail
  refine (leave_c 9 1 3 0 (by decide) (by decide) hr3).mono ?_; rintro e w' ⟨rfl, hr4⟩; clear hr3
  go_wp2_with fail
  refine (leave_c 1 1 3 80 (by decide) (by decide) hr4).mono ?_; rintro e w' ⟨rfl, hr5⟩; clear hr4
  go_wp2_with fail
  refine (groups_c 1 hr5).mono ?_; rintro e w' ⟨rfl, rfl⟩
  go_wp2_with fail
  go_ret
  exact ⟨rfl, hr5.1⟩

/-! ### Rolls that are none -/
/-- v is nil, or a roll that New did not make. -/
def NoneAt (w0 : World) (v : Value) (w : World) : Prop := Below w0.heap.size w0 w ∧ (v = .pointer none ∨ ∃ g, v = .pointer (some ⟨g, 0, none⟩) ∧ Blk w g 42 (rollCells false fun _ => false))
theorem enter_nil (j : Int) (w : World) : Calls Try.prog 9 #[.pointer none, .int .i64 j] w fun e w' => e = .returned (.int .i64 1) ∧ w = w' := by
  go_enter Try.func9, Try.ntmps9
  go_wp2_with fail
  refine (turn_nil _ _ _).mono ?_; rintro e w' ⟨rfl, rfl⟩
  go_wp2_with fail
  go_ret
  exact ⟨rfl, rfl⟩
theorem leave_nil (j : Int) (w : World) : Calls Try.prog 10 #[.pointer none, .int .i64 j] w fun e w' => e = .returned (.int .i64 1) ∧ w = w' := by
  go_enter Try.func10, Try.ntmps10
  go_wp2_with fail
  refine (turn_nil _ _ _).mono ?_; rintro e w' ⟨rfl, rfl⟩
  go_wp2_with fail
  go_ret
  exact ⟨rfl, rfl⟩
theorem enter_none (g : Nat) (f : Nat → Bool) (j : Int) (w : World) (h : Blk w g 42 (rollCells false f)) : Calls Try.prog 9 #[.pointer (some ⟨g, 0, none⟩), .int .i64 j] w fun e w' => e = .returned (.int .i64 1) ∧ w = w' := by
  have H := Lib.hid h; clear h
  go_enter Try.func9, Try.ntmps9
  go_wp2_with fail
  refine (turn_none g f _ _ _ H.out).mono ?_; rintro e w' ⟨rfl, rfl⟩
  go_wp2_with fail
  go_ret
  exact ⟨rfl, rfl⟩
theorem leave_none (g : Nat) (f : Nat → Bool) (j : Int) (w : World) (h : Blk w g 42 (rollCells false f)) : Calls Try.prog 10 #[.pointer (some ⟨g, 0, none⟩), .int .i64 j] w fun e w' => e = .returned (.int .i64 1) ∧ w = w' := by
  have H := Lib.hid h; clear h
  go_enter Try.func10, Try.ntmps10
  go_wp2_with fail
  refine (turn_none g f _ _ _ H.out).mono ?_; rintro e w' ⟨rfl, rfl⟩
  go_wp2_with fail
  go_ret
  exact ⟨rfl, rfl⟩
theorem enter_n {w0 : World} {v : Value} {w : World} (j : Int) (h : NoneAt w0 v w) : Calls Try.prog 9 #[v, .int .i64 j] w fun e w' => e = .returned (.int .i64 1) ∧ w = w' := by
  obtain ⟨_, rfl | ⟨g, rfl, hb⟩⟩ := h
  · exact enter_nil j w
  · exact enter_none g _ j w hb
theorem leave_n {w0 : World} {v : Value} {w : World} (j : Int) (h : NoneAt w0 v w) : Calls Try.prog 10 #[v, .int .i64 j] w fun e w' => e = .returned (.int .i64 1) ∧ w = w' := by
  obtain ⟨_, rfl | ⟨g, rfl, hb⟩⟩ := h
  · exact leave_nil j w
  · exact leave_none g _ j w hb
theorem groups_n {w0 : World} {v : Value} {w : World} (h : NoneAt w0 v w) : Calls Try.prog 13 #[v] w fun e w' => e = .returned (.int .i64 0) ∧ w = w' := by
  obtain ⟨_, rfl | ⟨g, rfl, hb⟩⟩ := h
  · exact groups_nil w
  · exact groups_any g _ _ w hb
theorem wants_n {w0 : World} {v : Value} {w : World} (h : NoneAt w0 v w) : Calls Try.prog 15 #[v, .int .i64 (-1)] w fun e w' => e = .returned (.bool false) ∧ w = w' := by
  obtain ⟨_, rfl | ⟨g, rfl, hb⟩⟩ := h
  · exact (wants_nil _ w).mono fun e w' ⟨he, hw⟩ => ⟨by rw [he]; exact r_bool (by decide +kernel), hw⟩
  · exact (wants_any g _ _ _ w hb).mono fun e w' ⟨he, hw⟩ => ⟨by rw [he]; exact r_bool (by decide +kernel), hw⟩

/-- The mask of the groups below k. -/
def mask (k : Nat) : Nat := 2 ^ k - 1
theorem mask_turn (k : Nat) (h : k < 8) : turnR (bt (mask k)) k true = 0 ∧ (List.range 8).all (fun i => turnS (bt (mask k)) k true i == bt (mask (k + 1)) i) = true ∧ wantsB (gsum (bt (mask (k + 1))) 8) (wrap64 (2 ^ k)) = true := by
  match k, h with
  | 0, _ => decide +kernel
  | 1, _ => decide +kernel
  | 2, _ => decide +kernel
  | 3, _ => decide +kernel
  | 4, _ => decide +kernel
  | 5, _ => decide +kernel
  | 6, _ => decide +kernel
  | 7, _ => decide +kernel

set_option maxRecDepth 100000 in
set_option maxHeartbeats 2000000 in
theorem known_any (w : World) : Calls Try.prog 6 #[] w fun e w' => e = .returned (.bool true) ∧ Below w.heap.size w w' := by
  go_enter Try.func6, Try.ntmps6
  go_wp2_with fail
  refine (new_c w w (Below.refl _ _)).mono ?_; rintro e w' ⟨rfl, hr⟩
  go_wp2_with fail
  refine (groups_c 0 hr).mono ?_; rintro e w' ⟨rfl, rfl⟩
  go_wp2_with fail
  refine (wants_c 0 (-1) false (by decide +kernel) hr).mono ?_; rintro e w' ⟨rfl, rfl⟩
  go_wp2_with fail
  refine (leave_c 0 0 0 80 (by decide) (by decide) hr).mono ?_; rintro e w' ⟨rfl, hr1⟩; clear hr
  go_wp2_with fail
  refine (enter_c 0 0 8 2 (by decide) (by decide) hr1).mono ?_; rintro e w' ⟨rfl, hr2⟩; clear hr1
  go_wp2_with fail
  refine (enter_c 0 0 (-1) 2 (by decide) (by decide) hr2).mono ?_; rintro e w' ⟨rfl, hr3⟩; clear hr2
  go_wp2_with fail
  refine (leave_c 0 0 8 2 (by decide) (by decide) hr3).mono ?_; rintro e w' ⟨rfl, hr4⟩; clear hr3
  go_wp2_with fail
  refine (leave_c 0 0 (-1) 2 (by decide) (by decide) hr4).mono ?_; rintro e w' ⟨rfl, hr5⟩; clear hr4
  go_wp2_with fail
  refine (enter_c 0 0 (-9223372036854775808) 2 (by decide) (by decide) hr5).mono ?_; rintro e w' ⟨rfl, hr6⟩; clear hr5
  go_wp2_with fail
  go_loopw [3] (fun i wr => ∃ k : Nat, k ≤ 8 ∧ i = .int .i64 k ∧ RollAt w w.heap.size w.heap.size (mask k) wr) (fun i _ => 8 - (intOf i).toNat)
  case atStart => exact ⟨0, by omega, rfl, hr6⟩
  case round =>
    obtain ⟨k, hk, rfl, hq⟩ := hrel
    by_cases hlt : k < 8
    · obtain ⟨e1, e2, e3⟩ := mask_turn k hlt
      have E3 := Lib.hid e3; clear e3
      have E1 := Lib.hid e1; clear e1
      have E2 := Lib.hid e2; clear e2
      go_wp2_with fail
      refine (enter_c (mask k) (mask (k + 1)) k 0 E1.out E2.out hq).mono ?_; rintro e w' ⟨rfl, hq1⟩; clear hq
      go_wp2_with fail
      refine (wants_c (mask (k + 1)) _ true E3.out hq1).mono ?_; rintro e w' ⟨rfl, rfl⟩
      go_wp2_with fail
      go_roundw
      case rel => exact ⟨k + 1, by omega, by go_num, hq1⟩
      case measure => simp [intOf]; omega
    · obtain rfl : k = 8 := by omega
      have hr100 : RollAt w w.heap.size w.heap.size 255 _ := hq
      clear hq
      go_wp2_with fail
      refine (groups_c 255 hr100).mono ?_; rintro e w' ⟨rfl, rfl⟩
      go_wp2_with fail
      refine (wants_c 255 256 false (by decide +kernel) hr100).mono ?_; rintro e w' ⟨rfl, rfl⟩
      go_wp2_with fail
      refine (leave_c 255 127 7 0 (by decide) (by decide) hr100).mono ?_; rintro e w' ⟨rfl, hr101⟩; clear hr100
      go_wp2_with fail
      refine (groups_c 127 hr101).mono ?_; rintro e w' ⟨rfl, rfl⟩
      go_wp2_with fail
      refine (wants_c 127 128 false (by decide +kernel) hr101).mono ?_; rintro e w' ⟨rfl, rfl⟩
      have hn : NoneAt w (.pointer none) _ := ⟨hr101.1, .inl rfl⟩
      clear hr101
      go_wp2_with fail
      go_loopw [5, 6] (fun v i wr => ∃ k : Nat, k ≤ 2 ∧ i = .int .i64 k ∧ NoneAt w v wr) (fun _ i _ => 2 - (intOf i).toNat)
      case atStart => exact ⟨0, by omega, rfl, hn⟩
      case round =>
        obtain ⟨k, hk, rfl, hn⟩ := hrel
        by_cases hlt : k < 2
        · go_wp2_with fail
          refine (enter_n _ hn).mono ?_; rintro e w' ⟨rfl, rfl⟩
          go_wp2_with fail
          refine (leave_n _ hn).mono ?_; rintro e w' ⟨rfl, rfl⟩
          go_wp2_with fail
          refine (wants_n hn).mono ?_; rintro e w' ⟨rfl, rfl⟩
          go_wp2_with fail
          refine (groups_n hn).mono ?_; rintro e w' ⟨rfl, rfl⟩
          go_wp2_with fail
          go_roundw
          case rel => exact ⟨k + 1, by omega, by go_num, hn.1.alloc hn.1.size _, .inr ⟨_, rfl, Blk.new _ _ _⟩⟩
          case measure => simp [intOf]; omega
        · go_wp2_with fail
          have hb := hn.1
          clear hn
          refine (works_any _).mono ?_; rintro e w' ⟨rfl, hb1⟩
          go_wp2_with fail
          go_ret
          exact ⟨rfl, hb.trans (hb1.mono hb.size)⟩

end Go.Proofs.Ytogcjflppjebfaa
