/- The walks of the layer 15 (flow): what Allow, the reference's Allow and works compute, each function once. -/
import Derived.Test.YtmagggmmhcchjaaRows
import Derived.Test.YtmagggmmhcchjaaPlain
import Derived.WalkKit
import Derived.WalkLawsBesides
import Derived.WalkSpells
import Derived.Outline
import Derived.Lib.Hide
namespace Go.Proofs.Ytmagggmmhcchjaa
open Go.RowKit

theorem ret_int {k : IntKind} {a b : Int} (h : a = b) : Ending.returned (.int k a) = .returned (.int k b) := by rw [h]

theorem u64_sub (s a : Int) (h1 : -9223372036854775808 ≤ s) (h2 : s ≤ 9223372036854775807) (h3 : -9223372036854775808 ≤ a) (h4 : a ≤ 9223372036854775807) (h : a < s) :
    IntKind.u64.wrap (IntKind.u64.wrap s - IntKind.u64.wrap a) = s - a := by
  simp [IntKind.wrap, IntKind.bits, IntKind.signed]
  omega

set_option maxHeartbeats 400000 in
theorem allow_any (wt s a : Int) (w : World) (h1 : -9223372036854775808 ≤ s) (h2 : s ≤ 9223372036854775807) (h3 : -9223372036854775808 ≤ a) (h4 : a ≤ 9223372036854775807) :
    Calls Try.prog 7 #[.int .i64 wt, .int .i64 s, .int .i64 a] w fun e w' => e = .returned (.int .i64 (allowF wt s a)) ∧ w = w' := by
  by_cases c1 : a < s
  · have e1 := u64_sub s a h1 h2 h3 h4 c1
    by_cases c2 : 32 < s - a
    · go_enter Try.func7, Try.ntmps7
      go_wp2
      all_goals (go_ret; exact ⟨ret_int (by unfold allowF; omega), rfl⟩)
    · go_enter Try.func7, Try.ntmps7
      go_wp2
      all_goals (go_ret; exact ⟨ret_int (by unfold allowF; omega), rfl⟩)
  · go_enter Try.func7, Try.ntmps7
    go_wp2
    all_goals (go_ret; exact ⟨ret_int (by unfold allowF; omega), rfl⟩)

theorem ahead_done (s a k : Int) (h : ¬ (k ≤ 32 ∧ a + k < s)) (h0 : 0 ≤ k) (h1 : k ≤ 33) (h2 : k ≤ max (s - a) 0) : k = aheadF s a := by unfold aheadF; omega

set_option maxHeartbeats 400000 in
theorem ahead_any (s a : Int) (w : World) (h1 : -9223372036854775808 ≤ s) (h2 : s ≤ 9223372036854775807) (h3 : -9223372036854775808 ≤ a) (h4 : a ≤ 9223372036854775807) :
    Calls Try.prog 11 #[.int .i64 s, .int .i64 a] w fun e w' => e = .returned (.int .i64 (aheadF s a)) ∧ w = w' := by
  go_enter Try.func11, Try.ntmps11
  go_wp2
  go_loop [1, 5] (fun x n => ∃ k : Int, 0 ≤ k ∧ k ≤ 33 ∧ k ≤ max (s - a) 0 ∧ n = .int .i64 k ∧ x = .int .i64 (a + k)) (fun _ n => (33 - intOf n).toNat)
  case atStart => exact ⟨0, by omega, by omega, by omega, rfl, by go_num⟩
  case round =>
    obtain ⟨k, hk0, hk1, hk2, rfl, rfl⟩ := hrel
    by_cases c1 : k ≤ 32
    · by_cases c2 : a + k < s
      · go_wp2
        go_round
        case rel => exact ⟨k + 1, by omega, by omega, by omega, rfl, by go_num⟩
        case measure => simp [intOf]; omega
      · go_wp2
        go_ret
        exact ⟨ret_int (ahead_done s a k (by omega) hk0 hk1 hk2), rfl⟩
    · go_wp2
      go_ret
      exact ⟨ret_int (ahead_done s a k (by omega) hk0 hk1 hk2), rfl⟩

theorem ahead_bd (s a : Int) : 0 ≤ aheadF s a ∧ aheadF s a ≤ 33 := by unfold aheadF; omega

set_option maxHeartbeats 400000 in
theorem ref_any (wt s a : Int) (w : World) (h1 : -9223372036854775808 ≤ s) (h2 : s ≤ 9223372036854775807) (h3 : -9223372036854775808 ≤ a) (h4 : a ≤ 9223372036854775807) :
    Calls Try.prog 8 #[.int .i64 wt, .int .i64 s, .int .i64 a] w fun e w' => e = .returned (.int .i64 (allowF wt s a)) ∧ w = w' := by
  have hb := ahead_bd s a
  go_enter Try.func8, Try.ntmps8
  go_wp2_with (go_at_call 11; refine (ahead_any _ _ _ h1 h2 h3 h4).mono ?_; rintro e w' ⟨rfl, rfl⟩)
  all_goals (go_ret; exact ⟨ret_int (by rw [← allow_ref]; omega), rfl⟩)

set_option maxHeartbeats 1000000 in
theorem works_any (w : World) :
    Calls Try.prog 9 #[] w fun e w' => e = .returned (.bool true) ∧ w = w' := by
  have b1 : ∀ w, Calls Try.prog 7 #[.int .i64 9, .int .i64 10, .int .i64 10] w fun e w' => e = .returned (.int .i64 4) ∧ w = w' := fun w => allow_any 9 10 10 w (by omega) (by omega) (by omega) (by omega)
  have b2 : ∀ w, Calls Try.prog 7 #[.int .i64 2, .int .i64 10, .int .i64 10] w fun e w' => e = .returned (.int .i64 2) ∧ w = w' := fun w => allow_any 2 10 10 w (by omega) (by omega) (by omega) (by omega)
  have b3 : ∀ w, Calls Try.prog 7 #[.int .i64 9, .int .i64 40, .int .i64 10] w fun e w' => e = .returned (.int .i64 2) ∧ w = w' := fun w => allow_any 9 40 10 w (by omega) (by omega) (by omega) (by omega)
  have b4 : ∀ w, Calls Try.prog 7 #[.int .i64 9, .int .i64 42, .int .i64 10] w fun e w' => e = .returned (.int .i64 0) ∧ w = w' := fun w => allow_any 9 42 10 w (by omega) (by omega) (by omega) (by omega)
  have b5 : ∀ w, Calls Try.prog 7 #[.int .i64 9, .int .i64 5, .int .i64 30] w fun e w' => e = .returned (.int .i64 4) ∧ w = w' := fun w => allow_any 9 5 30 w (by omega) (by omega) (by omega) (by omega)
  have B1 := Lib.hid b1
  have B2 := Lib.hid b2
  have B3 := Lib.hid b3
  have B4 := Lib.hid b4
  have B5 := Lib.hid b5
  clear b1 b2 b3 b4 b5
  go_enter Try.func9, Try.ntmps9
  go_wp2_with fail
  refine (B1.out _).mono ?_; rintro e w' ⟨rfl, rfl⟩
  go_wp2_with fail
  refine (B2.out _).mono ?_; rintro e w' ⟨rfl, rfl⟩
  go_wp2_with fail
  refine (B3.out _).mono ?_; rintro e w' ⟨rfl, rfl⟩
  go_wp2_with fail
  refine (B4.out _).mono ?_; rintro e w' ⟨rfl, rfl⟩
  go_wp2_with fail
  refine (B5.out _).mono ?_; rintro e w' ⟨rfl, rfl⟩
  go_wp2_with fail
  go_ret
  exact ⟨rfl, rfl⟩

end Go.Proofs.Ytmagggmmhcchjaa
