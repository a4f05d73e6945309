/-
  hauberklaw15.FlowKnown (a closed statement) returns true. No condition.
  The frame began as a print of proof-skeleton.mjs; the walk is by hand.
-/
import Derived.Test.YtmagggmmhcchjaaRows
import Derived.WalkKit
import Derived.ProofKit
import Derived.OpenShut
import Derived.Test.YtmagggmmhcchjaaWalks
namespace Go.Proofs.Ytmagggmmhcchjaa.flowKnown
open Go.ChangeShapes Go.WideShapes Go.ChangeAt Go.RowKit
set_option linter.unusedVariables false      -- a walk need not use every 'w<i>' (that an integer argument fits its kind)

theorem k0 (w : World) : Calls Try.prog 7 #[.int .i64 9, .int .i64 50, .int .i64 10] w fun e w' => e = .returned (.int .i64 0) ∧ w = w' := allow_any 9 50 10 w (by omega) (by omega) (by omega) (by omega)
theorem k1 (w : World) : Calls Try.prog 7 #[.int .i64 (-5), .int .i64 0, .int .i64 0] w fun e w' => e = .returned (.int .i64 0) ∧ w = w' := allow_any (-5) 0 0 w (by omega) (by omega) (by omega) (by omega)
theorem k2 (w : World) : Calls Try.prog 7 #[.int .i64 9, .int .i64 9223372036854775807, .int .i64 (-9223372036854775808)] w fun e w' => e = .returned (.int .i64 0) ∧ w = w' := allow_any 9 9223372036854775807 (-9223372036854775808) w (by omega) (by omega) (by omega) (by omega)
theorem k3 (w : World) : Calls Try.prog 7 #[.int .i64 9, .int .i64 (-9223372036854775808), .int .i64 9223372036854775807] w fun e w' => e = .returned (.int .i64 4) ∧ w = w' := allow_any 9 (-9223372036854775808) 9223372036854775807 w (by omega) (by omega) (by omega) (by omega)
theorem k4 (w : World) : Calls Try.prog 7 #[.int .i64 9223372036854775807, .int .i64 0, .int .i64 0] w fun e w' => e = .returned (.int .i64 4) ∧ w = w' := allow_any 9223372036854775807 0 0 w (by omega) (by omega) (by omega) (by omega)
theorem k5 (w : World) : Calls Try.prog 7 #[.int .i64 (-9223372036854775808), .int .i64 0, .int .i64 0] w fun e w' => e = .returned (.int .i64 0) ∧ w = w' := allow_any (-9223372036854775808) 0 0 w (by omega) (by omega) (by omega) (by omega)
theorem k6 (w : World) : Calls Try.prog 7 #[.int .i64 9, .int .i64 41, .int .i64 10] w fun e w' => e = .returned (.int .i64 1) ∧ w = w' := allow_any 9 41 10 w (by omega) (by omega) (by omega) (by omega)
theorem k7 (w : World) : Calls Try.prog 7 #[.int .i64 9, .int .i64 38, .int .i64 10] w fun e w' => e = .returned (.int .i64 4) ∧ w = w' := allow_any 9 38 10 w (by omega) (by omega) (by omega) (by omega)
theorem k8 (w : World) : Calls Try.prog 7 #[.int .i64 9, .int .i64 39, .int .i64 10] w fun e w' => e = .returned (.int .i64 3) ∧ w = w' := allow_any 9 39 10 w (by omega) (by omega) (by omega) (by omega)
theorem k9 (w : World) : Calls Try.prog 7 #[.int .i64 3, .int .i64 9223372036854775807, .int .i64 9223372036854775776] w fun e w' => e = .returned (.int .i64 1) ∧ w = w' := allow_any 3 9223372036854775807 9223372036854775776 w (by omega) (by omega) (by omega) (by omega)
theorem k10 (w : World) : Calls Try.prog 7 #[.int .i64 3, .int .i64 (-9223372036854775776), .int .i64 (-9223372036854775808)] w fun e w' => e = .returned (.int .i64 0) ∧ w = w' := allow_any 3 (-9223372036854775776) (-9223372036854775808) w (by omega) (by omega) (by omega) (by omega)
theorem k11 (w : World) : Calls Try.prog 7 #[.int .i64 9, .int .i64 0, .int .i64 (-9223372036854775808)] w fun e w' => e = .returned (.int .i64 0) ∧ w = w' := allow_any 9 0 (-9223372036854775808) w (by omega) (by omega) (by omega) (by omega)
theorem k12 (w : World) : Calls Try.prog 7 #[.int .i64 9, .int .i64 9223372036854775807, .int .i64 (-1)] w fun e w' => e = .returned (.int .i64 0) ∧ w = w' := allow_any 9 9223372036854775807 (-1) w (by omega) (by omega) (by omega) (by omega)

theorem own : ownKnob Try.prog.godebug = none := by kernel_rfl

/-! ### STEP 1: THE WALK: the Go text returns true. 'Grown w w'': the world has at most new blocks (Derived/RowKit3.lean). Part the cases AHEAD of 'go_enter' where a test parts the walk; take each callee by a contract of your own. -/
theorem walk  (w : World) :
    Calls Try.prog 6 #[] w fun e w' => e = .returned (.bool true) ∧ Grown w w' := by
  go_enter Try.func6, Try.ntmps6
  go_wp2_with fail
  refine (works_any _).mono ?_; rintro e w' ⟨rfl, rfl⟩
  go_wp2_with fail
  refine (k0 _).mono ?_; rintro e w' ⟨rfl, rfl⟩
  go_wp2_with fail
  refine (k1 _).mono ?_; rintro e w' ⟨rfl, rfl⟩
  go_wp2_with fail
  refine (k2 _).mono ?_; rintro e w' ⟨rfl, rfl⟩
  go_wp2_with fail
  refine (k3 _).mono ?_; rintro e w' ⟨rfl, rfl⟩
  go_wp2_with fail
  refine (k4 _).mono ?_; rintro e w' ⟨rfl, rfl⟩
  go_wp2_with fail
  refine (k5 _).mono ?_; rintro e w' ⟨rfl, rfl⟩
  go_wp2_with fail
  refine (k6 _).mono ?_; rintro e w' ⟨rfl, rfl⟩
  go_wp2_with fail
  refine (k7 _).mono ?_; rintro e w' ⟨rfl, rfl⟩
  go_wp2_with fail
  refine (k8 _).mono ?_; rintro e w' ⟨rfl, rfl⟩
  go_wp2_with fail
  refine (k9 _).mono ?_; rintro e w' ⟨rfl, rfl⟩
  go_wp2_with fail
  refine (k10 _).mono ?_; rintro e w' ⟨rfl, rfl⟩
  go_wp2_with fail
  refine (k11 _).mono ?_; rintro e w' ⟨rfl, rfl⟩
  go_wp2_with fail
  refine (k12 _).mono ?_; rintro e w' ⟨rfl, rfl⟩
  go_wp2_with fail
  go_ret
  exact ⟨rfl, Grown.refl _⟩

/-! ### THE ROW's STEP: WRITTEN OUT: LEAVE IT -/
set_option maxRecDepth 100000 in
theorem lifted (os : Os) (started : os.Started) (H : Type) (enc : TypeId × Value → H) :
    ReturnsInHanded {} Try.checked os 6 .any (Rows.flowKnownSpec.pre6 enc Try.prog Try.f6 Rows.flowKnownRow.domain false) (Rows.flowKnownSpec.post enc Try.prog Try.f6 false true false false) := by
  refine returnsInHanded_of_change (C := Try.checked) own started (by kernel_rfl) Try.func6
    (ChangeSpec.witness6 (enc := enc) (C := Try.checked) false ⟨#[], #[], []⟩ 8 (by kernel_rfl) (by kernel_rfl) (by kernel_rfl) (by kernel_rfl)) ?_
  intro W base args ds gs before hval0 hW hcnd _
  have hval : ∀ (j : Nat) t v, Try.f6.params[j]? = some t → args[j]? = some v → Value.okWide Try.prog W .any base t v := hval0
  have hW' := hW
  obtain ⟨p, q, hA0, hV, rfl, hfz, hnd⟩ := hW
  have hA : DataW.TrodAll enc Try.prog W 0 (fun _ => true) true Try.f6.params.toList args.toList ds p := hA0
  rw [Try.params6] at hA hval
  obtain ⟨rfl, rfl, rfl⟩ := trodAll_none hA
  obtain ⟨rfl, rfl⟩ := trodVars_none hV
  clear hA0 hval0
  simp only [List.append_nil] at hW'
  refine (walk  W).mono fun e W' ⟨he, hg⟩ => ?_
  subst he
  exact ⟨_, rfl, post_of_same (pa := []) (pv := []) hW' (fun _ _ _ => (trodAll_cons_mk (shut_bool Try.underlying4 _) trodAll_mk0)) (fun sp _ => rfl) (fun _ _ => rfl) rfl
    (hg.frame _) hg.2.1 (ok_one (by kernel_rfl) rfl (okWide_bool_mk Try.underlying4 _))⟩

theorem over : Rows.flowKnownRow.holds Try.pinned (OpenSpec.ofChange Rows.flowKnownSpec) :=
  OpenClaim.holds_of_wide 6 Try.f6 rfl rfl rfl rfl rfl rfl rfl ⟨rfl, rfl, rfl, rfl, rfl⟩ rfl rfl rfl rfl rfl (by kernel_rfl) Try.func6 (by kernel_rfl)
    (of_decide_eq_true (by kernel_rfl)) (by unfold Func.isWrapper; first | (rw [if_pos (by decide +kernel)]; kernel_rfl) | (rw [if_neg (by decide +kernel)]; exact ⟨rfl, rfl⟩))
    (fun os started H enc _ => lifted os started H enc)

/-- ████ THE STATEMENT ████ -/
theorem proved : Rows.FlowKnownSaid :=
  over
#print axioms proved
end Go.Proofs.Ytmagggmmhcchjaa.flowKnown
