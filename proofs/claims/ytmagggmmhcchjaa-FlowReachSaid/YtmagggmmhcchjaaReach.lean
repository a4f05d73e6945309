/-
  hauberklaw15.FlowReach returns true for every from and l, and its arguments read as before. No condition.
-/
import Derived.Test.YtmagggmmhcchjaaKit
import Derived.Test.YtmagggmmhcchjaaWalks
namespace Go.Proofs.Ytmagggmmhcchjaa.flowReach
open Go.ChangeShapes Go.WideShapes Go.ChangeAt Go.RowKit Go.Deep
set_option linter.unusedVariables false

theorem allow_room (w s a : Int) (h : a ≤ s) (hd : s - a ≤ 32) (hw : 0 ≤ w) : 0 ≤ allowF w s a ∧ allowF w s a ≤ 4 ∧ allowF w s a ≤ w ∧ allowF w s a ≤ 32 - (s - a) := by
  unfold allowF; split <;> omega
theorem allow_some (w s a : Int) (h : a ≤ s) (hd : s - a < 32) (hw : 0 < w) : (allowF w s a == 0) = false := by
  have : 0 < allowF w s a := by unfold allowF; split <;> omega
  simp; omega

set_option maxRecDepth 100000 in
set_option maxHeartbeats 1000000 in
theorem walk (f0 : Int) (A : Option Addr) (len cap : Nat) (F0 F1 : Nat → Int) (w : World) (hf : -9223372036854775808 ≤ f0 ∧ f0 ≤ 9223372036854775807) (hl : len ≤ 9223372036854775807)
    (hA : Rd w 2 A len (fun i => [.int .i64 (F0 i), .int .i64 (F1 i)])) (hb : ∀ i, i < len → (-9223372036854775808 ≤ F0 i ∧ F0 i ≤ 9223372036854775807) ∧ (-9223372036854775808 ≤ F1 i ∧ F1 i ≤ 9223372036854775807)) :
    Calls Try.prog 4 #[.int .i64 f0, .slice A len cap] w fun e w' => e = .returned (.bool true) ∧ Below w.heap.size w w' := by
  have HA := Lib.hid hA; clear hA
  have HB := Lib.hid hb; clear hb
  go_enter Try.func4, Try.ntmps4
  go_wp2_with fail
  refine (works_any _).mono ?_; rintro e w' ⟨rfl, rfl⟩
  go_wp2_with fail
  refine (bring_any _ _ _ hf.1 hf.2 (by omega) (by omega)).mono ?_; rintro e w' ⟨rfl, rfl⟩
  have m0 := Int.emod_nonneg f0 (b := 1152921504606846976) (by omega)
  have m1 := Int.emod_lt_of_pos f0 (b := 1152921504606846976) (by omega)
  generalize f0 % 1152921504606846976 = s0 at *
  go_wp2_with fail
  go_loop [5, 6, 7] (fun s a i => ∃ (x y : Int) (k : Nat), k ≤ len ∧ k ≤ 300 ∧ 0 ≤ y ∧ y ≤ x ∧ x - y ≤ 32 ∧ x ≤ 1152921504606846976 + 4 * k ∧ s = .int .i64 x ∧ a = .int .i64 y ∧ i = .int .i64 k) (fun _ _ i => 300 - (intOf i).toNat)
  case atStart => exact ⟨s0, s0, 0, by omega, by omega, by omega, by omega, by omega, by omega, rfl, rfl, rfl⟩
  case round =>
    obtain ⟨x, y, k, hk, hk3, hy, hxy, hd, hx, rfl, rfl, rfl⟩ := hrel
    by_cases c1 : k < len
    · by_cases c2 : k < 300
      · obtain ⟨b, off, rfl, hbl, hc⟩ := HA.out k c1
        have hc0 : w.cell? ⟨b, off + k * 2, none⟩ = some (.int .i64 (F0 k)) := hc 0 _ rfl
        have hc1 : w.cell? ⟨b, off + k * 2 + 1, none⟩ = some (.int .i64 (F1 k)) := hc 1 _ rfl
        clear hc HA
        obtain ⟨⟨u1, u2⟩, ⟨u3, u4⟩⟩ := HB.out k c1
        generalize F0 k = v0 at *
        generalize F1 k = v1 at *
        go_wp2_with fail
        refine (bring_any _ _ _ u1 u2 (by omega) (by omega)).mono ?_; rintro e w' ⟨rfl, rfl⟩
        have n0 := Int.emod_nonneg v0 (b := 9) (by omega)
        have n1 := Int.emod_lt_of_pos v0 (b := 9) (by omega)
        generalize v0 % 9 = wt at *
        go_wp2_with fail
        refine (allow_any _ _ _ _ (by omega) (by omega) (by omega) (by omega)).mono ?_; rintro e w' ⟨rfl, rfl⟩
        obtain ⟨g0, g1, g2, g3⟩ := allow_room wt x y hxy hd n0
        have g4 := allow_some wt x y hxy
        generalize allowF wt x y = n at *
        have d3 : decide (n < 0) = false := by simp; omega
        have d4 : decide (4 < n) = false := by simp; omega
        have n2 := Int.emod_nonneg v1 (b := 5) (by omega)
        have n3 := Int.emod_lt_of_pos v1 (b := 5) (by omega)
        have d1 : decide (32 < x + n - y) = false := by simp; omega
        have d2 : decide (wt < n) = false := by simp; omega
        by_cases c3 : 0 < wt
        · by_cases c4 : x - y < 32
          · have hne := g4 c4 c3
            clear g4
            go_wp2_with fail
            refine (bring_any _ _ _ u3 u4 (by omega) (by omega)).mono ?_; rintro e w' ⟨rfl, rfl⟩
            (generalize v1 % 5 = mv at *)
            go_wp2_with fail
            all_goals
              go_round
              case rel => exact ⟨_, _, k + 1, by omega, by omega, by omega, by omega, by omega, by omega, rfl, rfl, by go_num⟩
              case measure => simp [intOf]; omega
          · clear g4
            go_wp2_with fail
            refine (bring_any _ _ _ u3 u4 (by omega) (by omega)).mono ?_; rintro e w' ⟨rfl, rfl⟩
            (generalize v1 % 5 = mv at *)
            go_wp2_with fail
            all_goals
              go_round
              case rel => exact ⟨_, _, k + 1, by omega, by omega, by omega, by omega, by omega, by omega, rfl, rfl, by go_num⟩
              case measure => simp [intOf]; omega
        · clear g4
          go_wp2_with fail
          refine (bring_any _ _ _ u3 u4 (by omega) (by omega)).mono ?_; rintro e w' ⟨rfl, rfl⟩
          (generalize v1 % 5 = mv at *)
          go_wp2_with fail
          all_goals
            go_round
            case rel => exact ⟨_, _, k + 1, by omega, by omega, by omega, by omega, by omega, by omega, rfl, rfl, by go_num⟩
            case measure => simp [intOf]; omega
      · go_wp2_with fail
        go_ret
        exact ⟨rfl, Below.refl _ _⟩
    · go_wp2_with fail
      go_ret
      exact ⟨rfl, Below.refl _ _⟩

set_option maxRecDepth 100000 in
theorem lifted (os : Os) (started : os.Started) (H : Type) (enc : TypeId × Value → H) :
    ReturnsInHanded {} Try.checked os 4 .any (Rows.flowReachSpec.pre6 enc Try.prog Try.f4 Rows.flowReachRow.domain false) (Rows.flowReachSpec.post enc Try.prog Try.f4 false true false false) := by
  refine returnsInHanded_of_change (C := Try.checked) own started (by kernel_rfl) Try.func4
    (ChangeSpec.witness6 (enc := enc) (C := Try.checked) false ⟨#[], #[.int .i64 0, .slice none 0 0], []⟩ 8 (by kernel_rfl) (by kernel_rfl) (by kernel_rfl) (by kernel_rfl)) ?_
  intro W base args ds gs before hval0 hW hcnd _
  have hval : ∀ (j : Nat) t v, Try.f4.params[j]? = some t → args[j]? = some v → Value.okWide Try.prog W .any base t v := hval0
  have hW' := hW
  obtain ⟨p, q, hA0, hV, rfl, hfz, hnd⟩ := hW
  have hA : DataW.TrodAll enc Try.prog W 0 (fun _ => true) true Try.f4.params.toList args.toList ds p := hA0
  rw [Try.params4] at hA hval
  obtain ⟨v0, vs0, d0, ds0, p0, q0, hargs, rfl, rfl, h0, r0⟩ := trodAll_cons hA
  obtain ⟨v1, vs1, d1, ds1, p1, q1, rfl, rfl, rfl, h1, r1⟩ := trodAll_cons r0
  obtain ⟨rfl, rfl, rfl⟩ := trodAll_nil r1
  obtain rfl : args = #[v0, v1] := by cases args; simp_all
  obtain ⟨rfl, rfl⟩ := trodVars_none hV
  obtain ⟨f0, rfl, rfl, rfl, w0⟩ := open_int Try.underlying3 (hval 0 3 v0 rfl rfl) h0
  have k1 := h1
  have lt1 : ∀ x ∈ p1, x.block < W.heap.size := by obtain ⟨m, hm⟩ := k1; exact DataW.trod_lt m _ _ _ hm
  obtain ⟨a1, len1, cap1, rfl⟩ := okWide_slice Try.underlying25 (hval 1 25 v1 rfl rfl)
  obtain ⟨F0, F1, hrd, hml, hwf⟩ := open_rows2 Try.underlying25 Try.underlying27 Try.underlying3 (by kernel_rfl) (by kernel_rfl) h1
  clear hA0 hval0
  refine (walk f0 a1 len1 cap1 F0 F1 W (wf_bd w0) (by unfold maxLen at hml; omega) hrd (fun i hi => ⟨wf_bd (hwf i hi).1, wf_bd (hwf i hi).2⟩)).mono fun e W' ⟨he, bel⟩ => ?_
  subst he
  exact ⟨_, rfl, _, _, _, [], _, [], hW', trodAll_mk1 (shut_bool Try.underlying4 _), (trodAll_cons_mk (shut_int Try.underlying3 w0) (trodAll_cons_mk (Below.trod laidOut (by kernel_rfl) (of_decide_eq_true (by kernel_rfl)) k1 bel lt1) trodAll_mk0)), rfl, bel.frame _, fun h => by cases h⟩

theorem over : Rows.flowReachRow.holds Try.pinned (OpenSpec.ofChange Rows.flowReachSpec) :=
  OpenClaim.holds_of_wide 4 Try.f4 rfl rfl rfl rfl rfl rfl rfl ⟨rfl, rfl, rfl, rfl, rfl⟩ rfl rfl rfl rfl rfl (by kernel_rfl) Try.func4 (by kernel_rfl)
    (of_decide_eq_true (by kernel_rfl)) (by unfold Func.isWrapper; first | (rw [if_pos (by decide +kernel)]; kernel_rfl) | (rw [if_neg (by decide +kernel)]; exact ⟨rfl, rfl⟩))
    (fun os started H enc _ => lifted os started H enc)

theorem proved : Rows.FlowReachSaid := over
#print axioms proved
end Go.Proofs.Ytmagggmmhcchjaa.flowReach
