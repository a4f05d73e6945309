/- The walks of the layer 24 (rolls): the program's roll, each function once. -/
import Derived.Test.YtogcjflppjebfaaKit
import Derived.Laws.BitsAllLaws
import Derived.Laws.BitsLemmas
namespace Go.Proofs.Ytogcjflppjebfaa
open Go.ChangeShapes Go.WideShapes Go.ChangeAt Go.RowKit Go.Deep

/-! ### Plain -/
theorem ofInt_i64 (a : Nat) (ha : a < 9223372036854775808) : (BitVec.ofInt 64 (a : Int)).toNat = a := by
  rw [BitVec.ofInt_natCast, BitVec.toNat_ofNat]; exact Nat.mod_eq_of_lt (by omega)
theorem i64_or_nat (a b : Nat) (ha : a < 9223372036854775808) (hb : b < 9223372036854775808) : bits .or .i64 (a : Int) (b : Int) = ((a ||| b : Nat) : Int) := by
  have hx : a ||| b < 2 ^ 63 := Nat.or_lt_two_pow (by omega) (by omega)
  show IntKind.i64.wrap ((BitVec.ofInt 64 (a : Int) ||| BitVec.ofInt 64 (b : Int)).toNat : Int) = _
  rw [BitVec.toNat_or, ofInt_i64 a ha, ofInt_i64 b hb, IntKind.wrap_i64]
  omega

theorem pow_le (k : Nat) (h : k ≤ 8) : 2 ^ k ≤ 256 := Nat.pow_le_pow_right (n := 2) (by omega) h
theorem or_pow (n k : Nat) (h : n < 2 ^ k) (hk : k ≤ 8) : bits .or .i64 (n : Int) (wrap64 (2 ^ k)) = ((n + 2 ^ k : Nat) : Int) := by
  have hp := pow_le k hk
  have e : wrap64 (2 ^ k) = ((2 ^ k : Nat) : Int) := by
    rw [IntWalk.wrap64_in]
    · simp
    · have : ((2 : Int) ^ k) = ((2 ^ k : Nat) : Int) := by simp
      omega
  rw [e, i64_or_nat n (2 ^ k) (by omega) (by omega)]
  congr 1
  have := Nat.two_pow_add_eq_or_of_lt h 1
  simp only [Nat.mul_one] at this
  rw [Nat.or_comm, ← this, Nat.add_comm]

/-- The sum of 2^i over those i below k that are in f. -/
def gsum (f : Nat → Bool) : Nat → Nat
  | 0 => 0
  | k + 1 => gsum f k + if f k = true then 2 ^ k else 0
theorem gsum_lt (f : Nat → Bool) (k : Nat) : gsum f k < 2 ^ k := by
  induction k with
  | zero => simp [gsum]
  | succ k ih => simp only [gsum, Nat.pow_succ]; split <;> omega

/-! ### The roll -/
/-- A roll: begun, and which of the eight groups are in. -/
def rollCells (bg : Bool) (f : Nat → Bool) : Array Value := #[.bool bg, .bool (f 0), .bool (f 1), .bool (f 2), .bool (f 3), .bool (f 4), .bool (f 5), .bool (f 6), .bool (f 7)]
def upd (f : Nat → Bool) (j : Nat) (v : Bool) : Nat → Bool := fun k => if k = j then v else f k

theorem rollCells_at (bg : Bool) (f : Nat → Bool) (k : Nat) (h : k < 8) : (rollCells bg f)[1 + k]? = some (.bool (f k)) := by
  match k, h with
  | 0, _ => rfl
  | 1, _ => rfl
  | 2, _ => rfl
  | 3, _ => rfl
  | 4, _ => rfl
  | 5, _ => rfl
  | 6, _ => rfl
  | 7, _ => rfl
theorem rollCells_set (bg : Bool) (f : Nat → Bool) (k : Nat) (v : Bool) (h : k < 8) : (rollCells bg f).setIfInBounds (1 + k) (.bool v) = rollCells bg (upd f k v) := by
  match k, h with
  | 0, _ => rfl
  | 1, _ => rfl
  | 2, _ => rfl
  | 3, _ => rfl
  | 4, _ => rfl
  | 5, _ => rfl
  | 6, _ => rfl
  | 7, _ => rfl

/-- What 'turn' answers of a begun roll, and what the roll is then. -/
def turnR (f : Nat → Bool) (j : Int) (v : Bool) : Int := if j < 0 ∨ 8 ≤ j then 2 else if f j.toNat = v then 80 else 0
def turnS (f : Nat → Bool) (j : Int) (v : Bool) : Nat → Bool := if turnR f j v = 0 then upd f j.toNat v else f

set_option maxHeartbeats 400000 in
theorem turn_any (g : Nat) (f : Nat → Bool) (j : Int) (v : Bool) (w : World) (h : Blk w g 42 (rollCells true f)) :
    Calls Try.prog 19 #[.pointer (some ⟨g, 0, none⟩), .int .i64 j, .bool v] w fun e w' =>
      e = .returned (.int .i64 (turnR f j v)) ∧ Blk w' g 42 (rollCells true (turnS f j v)) ∧ w.grownBy w' (some g) ∧ w'.heap.size = w.heap.size := by
  have c0 : w.cell? ⟨g, 0, none⟩ = some (.bool true) := h.cell 0
  have H := Lib.hid h; clear h
  by_cases h1 : 0 ≤ j
  · by_cases h2 : j < 8
    · obtain ⟨k, rfl⟩ := Int.eq_ofNat_of_zero_le h1
      have hk : k < 8 := by omega
      have c1 : w.cell? ⟨g, 1 + k, none⟩ = some (.bool (f k)) := (H.out.cell _).trans (rollCells_at _ _ _ hk)
      have f1 := H.out.frozen (1 + k)
      by_cases h3 : f k = v
      · have b1 : (f k == v) = true := by simp [h3]
        have H3 := Lib.hid h3; clear h3
        go_enter Try.func19, Try.ntmps19
        go_wp2
        go_ret
        have e : turnR f k v = 80 := by simp [turnR, H3.out, h2]
        exact ⟨r_int e.symm, by rw [turnS, e]; exact H.out, only_refl _ _, rfl⟩
      · have b1 : (f k == v) = false := by simp [h3]
        have H3 := Lib.hid h3; clear h3
        go_enter Try.func19, Try.ntmps19
        go_wp2
        go_ret
        have e : turnR f k v = 0 := by simp [turnR, H3.out, h2]
        refine ⟨r_int e.symm, ?_, only_setCell (only_refl _ _) (.inl rfl) _, by simp [World.setCell]⟩
        rw [turnS, e, if_pos rfl, Int.toNat_natCast, ← rollCells_set _ _ _ _ hk]
        exact H.out.set_ _ _
    · go_enter Try.func19, Try.ntmps19
      go_wp2
      go_ret
      have e : turnR f j v = 2 := by rw [turnR, if_pos (by omega)]
      exact ⟨r_int e.symm, by rw [turnS, e]; exact H.out, only_refl _ _, rfl⟩
  · go_enter Try.func19, Try.ntmps19
    go_wp2
    go_ret
    have e : turnR f j v = 2 := by rw [turnR, if_pos (by omega)]
    exact ⟨r_int e.symm, by rw [turnS, e]; exact H.out, only_refl _ _, rfl⟩

theorem turn_nil (j : Int) (v : Bool) (w : World) : Calls Try.prog 19 #[.pointer none, .int .i64 j, .bool v] w fun e w' => e = .returned (.int .i64 1) ∧ w = w' := by
  go_enter Try.func19, Try.ntmps19
  go_wp2
  go_ret
  exact ⟨rfl, rfl⟩

theorem turn_none (g : Nat) (f : Nat → Bool) (j : Int) (v : Bool) (w : World) (h : Blk w g 42 (rollCells false f)) : Calls Try.prog 19 #[.pointer (some ⟨g, 0, none⟩), .int .i64 j, .bool v] w fun e w' => e = .returned (.int .i64 1) ∧ w = w' := by
  have c0 : w.cell? ⟨g, 0, none⟩ = some (.bool false) := h.cell 0
  have H := Lib.hid h; clear h
  go_enter Try.func19, Try.ntmps19
  go_wp2
  go_ret
  exact ⟨rfl, rfl⟩

set_option maxHeartbeats 400000 in
theorem groups_any (g : Nat) (bg : Bool) (f : Nat → Bool) (w : World) (h : Blk w g 42 (rollCells bg f)) :
    Calls Try.prog 13 #[.pointer (some ⟨g, 0, none⟩)] w fun e w' => e = .returned (.int .i64 (gsum f 8)) ∧ w = w' := by
  have H := Lib.hid h; clear h
  go_enter Try.func13, Try.ntmps13
  go_wp2
  go_loop [3, 4, 7] (fun x _ i => ∃ k : Nat, k ≤ 8 ∧ i = .int .i64 k ∧ x = .int .i64 (gsum f k)) (fun _ _ i => 8 - (intOf i).toNat)
  case atStart => exact ⟨0, by omega, rfl, rfl⟩
  case round =>
    obtain ⟨k, hk, rfl, rfl⟩ := hrel
    by_cases hlt : k < 8
    · have c1 : w.cell? ⟨g, 1 + k, none⟩ = some (.bool (f k)) := (H.out.cell _).trans (rollCells_at _ _ _ hlt)
      have E := Lib.hid (or_pow (gsum f k) k (gsum_lt f k) hk)
      go_wp2
      · have hf : f k = true := by assumption
        go_round
        case rel => exact ⟨k + 1, by omega, by go_num, by rw [E.out, gsum, if_pos hf]⟩
        case measure => simp [intOf]; omega
      · have hf : f k = false := by assumption
        go_round
        case rel => exact ⟨k + 1, by omega, by go_num, by rw [gsum, hf]; simp⟩
        case measure => simp [intOf]; omega
    · obtain rfl : k = 8 := by omega
      go_wp2
      go_ret
      exact ⟨rfl, rfl⟩

theorem groups_nil (w : World) : Calls Try.prog 13 #[.pointer none] w fun e w' => e = .returned (.int .i64 0) ∧ w = w' := by
  go_enter Try.func13, Try.ntmps13
  go_wp2
  go_ret
  exact ⟨rfl, rfl⟩

/-- Is one of the groups m among G? -/
def wantsB (G m : Int) : Bool := bits .and .i64 G m != 0

theorem wants_any (g : Nat) (bg : Bool) (f : Nat → Bool) (m : Int) (w : World) (h : Blk w g 42 (rollCells bg f)) :
    Calls Try.prog 15 #[.pointer (some ⟨g, 0, none⟩), .int .i64 m] w fun e w' => e = .returned (.bool (wantsB (gsum f 8) m)) ∧ w = w' := by
  have H := Lib.hid h; clear h
  go_enter Try.func15, Try.ntmps15
  go_wp2_with fail
  refine (groups_any g bg f _ H.out).mono ?_; rintro e w' ⟨rfl, rfl⟩
  go_wp2_with fail
  go_ret
  exact ⟨rfl, rfl⟩

theorem wants_nil (m : Int) (w : World) :
    Calls Try.prog 15 #[.pointer none, .int .i64 m] w fun e w' => e = .returned (.bool (wantsB 0 m)) ∧ w = w' := by
  go_enter Try.func15, Try.ntmps15
  go_wp2_with fail
  refine (groups_nil _).mono ?_; rintro e w' ⟨rfl, rfl⟩
  go_wp2_with fail
  go_ret
  exact ⟨rfl, rfl⟩

theorem new_any (w : World) : Calls Try.prog 7 #[] w fun e w' => e = .returned (.pointer (some ⟨w.heap.size, 0, none⟩)) ∧ w' = w.alloc (.cells (rollCells true fun _ => false) 42) := by
  go_enter Try.func7, Try.ntmps7
  go_wp2
  go_ret
  exact ⟨rfl, rfl⟩

/-- Enter and Leave. -/
theorem enter_any (g : Nat) (f : Nat → Bool) (j : Int) (w : World) (h : Blk w g 42 (rollCells true f)) :
    Calls Try.prog 9 #[.pointer (some ⟨g, 0, none⟩), .int .i64 j] w fun e w' =>
      e = .returned (.int .i64 (turnR f j true)) ∧ Blk w' g 42 (rollCells true (turnS f j true)) ∧ w.grownBy w' (some g) ∧ w'.heap.size = w.heap.size := by
  have H := Lib.hid h; clear h
  go_enter Try.func9, Try.ntmps9
  go_wp2_with fail
  refine (turn_any g f j true _ H.out).mono ?_; rintro e w' ⟨rfl, h1, h2, h3⟩
  have H1 := Lib.hid h1; clear h1
  have H2 := Lib.hid h2; clear h2
  have H3 := Lib.hid h3; clear h3
  go_wp2_with fail
  go_ret
  exact ⟨rfl, H1.out, H2.out, H3.out⟩
theorem leave_any (g : Nat) (f : Nat → Bool) (j : Int) (w : World) (h : Blk w g 42 (rollCells true f)) :
    Calls Try.prog 10 #[.pointer (some ⟨g, 0, none⟩), .int .i64 j] w fun e w' =>
      e = .returned (.int .i64 (turnR f j false)) ∧ Blk w' g 42 (rollCells true (turnS f j false)) ∧ w.grownBy w' (some g) ∧ w'.heap.size = w.heap.size := by
  have H := Lib.hid h; clear h
  go_enter Try.func10, Try.ntmps10
  go_wp2_with fail
  refine (turn_any g f j false _ H.out).mono ?_; rintro e w' ⟨rfl, h1, h2, h3⟩
  have H1 := Lib.hid h1; clear h1
  have H2 := Lib.hid h2; clear h2
  have H3 := Lib.hid h3; clear h3
  go_wp2_with fail
  go_ret
  exact ⟨rfl, H1.out, H2.out, H3.out⟩

end Go.Proofs.Ytogcjflppjebfaa
