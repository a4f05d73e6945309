/-
  hauberklaw15.FlowGrows returns true for every a and b, and its arguments read as before. No condition.
-/
import Derived.Test.YtmagggmmhcchjaaRows
import Derived.WalkKit
import Derived.ProofKit
import Derived.OpenShut
import Derived.BigRegion
import Derived.BigQuiet
import Derived.Deep.QuietTactic
import Derived.Test.YtmagggmmhcchjaaWalks
namespace Go.Proofs.Ytmagggmmhcchjaa.flowGrows
open Go.ChangeShapes Go.WideShapes Go.ChangeAt Go.RowKit
set_option linter.unusedVariables false

theorem bd_of_wf {a : Int} (h : (Lit.int .i64 a).wf = true) : -9223372036854775808 ≤ a ∧ a ≤ 9223372036854775807 := by
  simpa [Lit.wf, IntKind.min, IntKind.max, IntKind.signed, IntKind.bits] using h

theorem below_drewN {B : Nat} {a w : World} (h : Below B a w) (n : Nat) : Below B a (w.drewN n) := ⟨h.os, h.tape, h.output, h.size, h.block⟩

theorem own : ownKnob Try.prog.godebug = none := by kernel_rfl
theorem laidOut : laidOutB Try.prog = true := by kernel_rfl

theorem grow_w (w w' s a : Int) (h : w ≤ w') : allowF w s a ≤ allowF w' s a := by unfold allowF; split <;> omega
theorem grow_s (w s s' a : Int) (h : s ≤ s') : allowF w s' a ≤ allowF w s a := by unfold allowF; split <;> split <;> omega
theorem grow_a (w s a a' : Int) (h : a ≤ a') : allowF w s a ≤ allowF w s a' := by unfold allowF; split <;> split <;> omega

set_option maxHeartbeats 200000 in
theorem walk (a0 a1 a2 b0 b1 b2 : Int) (w : World)
    (p1 : -9223372036854775808 ≤ a1 ∧ a1 ≤ 9223372036854775807) (p2 : -9223372036854775808 ≤ a2 ∧ a2 ≤ 9223372036854775807)
    (q1 : -9223372036854775808 ≤ b1 ∧ b1 ≤ 9223372036854775807) (q2 : -9223372036854775808 ≤ b2 ∧ b2 ≤ 9223372036854775807) :
    Calls Try.prog 5 #[.agg #[.int .i64 a0, .int .i64 a1, .int .i64 a2], .agg #[.int .i64 b0, .int .i64 b1, .int .i64 b2]] w fun e w' => e = .returned (.bool true) ∧ Below w.heap.size w w' := by
  obtain ⟨wt, e1⟩ : ∃ x, (if b0 < a0 then b0 else a0) = x := ⟨_, rfl⟩
  obtain ⟨more, e2⟩ : ∃ x, (if a0 < b0 then b0 else a0) = x := ⟨_, rfl⟩
  obtain ⟨sq, e3⟩ : ∃ x, (if b1 < a1 then b1 else a1) = x := ⟨_, rfl⟩
  obtain ⟨far, e4⟩ : ∃ x, (if a1 < b1 then b1 else a1) = x := ⟨_, rfl⟩
  obtain ⟨aru, e5⟩ : ∃ x, (if b2 < a2 then b2 else a2) = x := ⟨_, rfl⟩
  obtain ⟨high, e6⟩ : ∃ x, (if a2 < b2 then b2 else a2) = x := ⟨_, rfl⟩
  have g0 : wt ≤ more := by omega
  have g1 : sq ≤ far := by omega
  have g2 : aru ≤ high := by omega
  have r1 : -9223372036854775808 ≤ sq := by omega
  have r2 : sq ≤ 9223372036854775807 := by omega
  have r3 : -9223372036854775808 ≤ far := by omega
  have r4 : far ≤ 9223372036854775807 := by omega
  have r5 : -9223372036854775808 ≤ aru := by omega
  have r6 : aru ≤ 9223372036854775807 := by omega
  have r7 : -9223372036854775808 ≤ high := by omega
  have r8 : high ≤ 9223372036854775807 := by omega
  clear p1 p2 q1 q2
  go_enter Try.func5, Try.ntmps5
  go_wp2_with fail
  refine (works_any _).mono ?_; rintro e w' ⟨rfl, rfl⟩
  go_wp2_with fail
  go_quiet (fail)
  go_wp2_with fail
  go_quiet (fail)
  go_wp2_with fail
  go_quiet (fail)
  clear e1 e2 e3 e4 e5 e6
  have f1 := (allow_bd wt far aru).1
  have f2 := (allow_bd wt far aru).2
  have f3 := grow_w wt more far aru g0
  have f4 := grow_s wt sq far aru g1
  have f5 := grow_a wt far aru high g2
  have f6 := (allow_bd more sq high).2
  go_wp2_with fail
  refine (allow_any _ _ _ _ r3 r4 r5 r6).mono ?_; rintro e w' ⟨rfl, rfl⟩
  go_wp2_with fail
  refine (allow_any _ _ _ _ r3 r4 r5 r6).mono ?_; rintro e w' ⟨rfl, rfl⟩
  go_wp2_with fail
  refine (allow_any _ _ _ _ r1 r2 r5 r6).mono ?_; rintro e w' ⟨rfl, rfl⟩
  go_wp2_with fail
  refine (allow_any _ _ _ _ r3 r4 r7 r8).mono ?_; rintro e w' ⟨rfl, rfl⟩
  go_wp2_with fail
  refine (allow_any _ _ _ _ r1 r2 r7 r8).mono ?_; rintro e w' ⟨rfl, rfl⟩
  go_wp2_with fail
  go_ret
  exact ⟨rfl, below_drewN (((Below.refl _ _).alloc (Nat.le_refl _) _).alloc (by simp) _) _⟩

section
variable {H : Type} {enc : TypeId × Value → H} {P : Program} {w : World} {base : Nat} {spare : Nat → Bool} {held : Bool}
/-- A value of an array type is written out: as many cells as the type has. -/
theorem okWide_array {n : Nat} {e t : TypeId} {r : Reach} {b0 : Nat} {v : Value} (ht : P.underlying t = some (.array n e)) (h : Value.okWide P w r b0 t v) : ∃ cs, v = .agg cs ∧ cs.size = P.cellsOf t := by
  simp only [Value.okWide, ht] at h
  obtain ⟨cs, h1, h2, _⟩ := h
  exact ⟨cs, h1, h2⟩
/-- An array of three integers that came in. -/
theorem open_ints3 {k : IntKind} {e t : TypeId} {r : Reach} {b0 : Nat} {v : Value} {d : DataW H} {p : List MemPlace} (ht : P.underlying t = some (.array 3 e)) (he : P.underlying e = some (.int k)) (hC : P.cellsOf t = 3) (hE : P.cellsOf e = 1)
    (hv : Value.okWide P w r b0 t v) (h : DataW.Trod enc P w base spare held t v d p) :
    ∃ a0 a1 a2 : Int, v = .agg #[.int k a0, .int k a1, .int k a2] ∧ (Lit.int k a0).wf = true ∧ (Lit.int k a1).wf = true ∧ (Lit.int k a2).wf = true := by
  obtain ⟨cs, rfl, hsz⟩ := okWide_array ht hv
  obtain ⟨l⟩ := cs
  match l, hsz.trans hC with
  | [c0, c1, c2], _ =>
    obtain ⟨fuel, hf⟩ := h
    obtain ⟨ys, m, _, _, _, hl, hg⟩ := DataW.trod_array ht hf
    match ys, hl with
    | [y0, y1, y2], _ =>
      have k0 := hg 0 (by omega)
      have k1 := hg 1 (by omega)
      have k2 := hg 2 (by omega)
      simp only [hE, Value.cells] at k0 k1 k2
      obtain ⟨a0, z0, _, f0⟩ := DataW.trod_int he (by simpa using k0)
      obtain ⟨a1, z1, _, f1⟩ := DataW.trod_int he (by simpa using k1)
      obtain ⟨a2, z2, _, f2⟩ := DataW.trod_int he (by simpa using k2)
      simp at z0 z1 z2
      subst z0 z1 z2
      exact ⟨a0, a1, a2, rfl, f0, f1, f2⟩
end

set_option maxRecDepth 100000 in
theorem lifted (os : Os) (started : os.Started) (H : Type) (enc : TypeId × Value → H) :
    ReturnsInHanded {} Try.checked os 5 .any (Rows.flowGrowsSpec.pre6 enc Try.prog Try.f5 Rows.flowGrowsRow.domain false) (Rows.flowGrowsSpec.post enc Try.prog Try.f5 false true false false) := by
  refine returnsInHanded_of_change (C := Try.checked) own started (by kernel_rfl) Try.func5
    (ChangeSpec.witness6 (enc := enc) (C := Try.checked) false ⟨#[], #[.agg #[.int .i64 0, .int .i64 0, .int .i64 0], .agg #[.int .i64 0, .int .i64 0, .int .i64 0]], []⟩ 8 (by kernel_rfl) (by kernel_rfl) (by kernel_rfl) (by kernel_rfl)) ?_
  intro W base args ds gs before hval0 hW hcnd _
  have hval : ∀ (j : Nat) t v, Try.f5.params[j]? = some t → args[j]? = some v → Value.okWide Try.prog W .any base t v := hval0
  have hW' := hW
  obtain ⟨p, q, hA0, hV, rfl, hfz, hnd⟩ := hW
  have hA : DataW.TrodAll enc Try.prog W 0 (fun _ => true) true Try.f5.params.toList args.toList ds p := hA0
  rw [Try.params5] at hA hval
  obtain ⟨v0, vs0, d0, ds0, p0, q0, hargs, rfl, rfl, h0, r0⟩ := trodAll_cons hA
  obtain ⟨v1, vs1, d1, ds1, p1, q1, rfl, rfl, rfl, h1, r1⟩ := trodAll_cons r0
  obtain ⟨rfl, rfl, rfl⟩ := trodAll_nil r1
  obtain rfl : args = #[v0, v1] := by cases args; simp_all
  obtain ⟨rfl, rfl⟩ := trodVars_none hV
  have k0 := h0
  have lt0 : ∀ x ∈ p0, x.block < W.heap.size := by obtain ⟨m, hm⟩ := k0; exact DataW.trod_lt m _ _ _ hm
  have k1 := h1
  have lt1 : ∀ x ∈ p1, x.block < W.heap.size := by obtain ⟨m, hm⟩ := k1; exact DataW.trod_lt m _ _ _ hm
  obtain ⟨a0, a1, a2, rfl, _, f1, f2⟩ := open_ints3 Try.underlying29 Try.underlying3 (by kernel_rfl) (by kernel_rfl) (hval 0 29 v0 rfl rfl) h0
  obtain ⟨b0, b1, b2, rfl, _, g1, g2⟩ := open_ints3 Try.underlying29 Try.underlying3 (by kernel_rfl) (by kernel_rfl) (hval 1 29 v1 rfl rfl) h1
  clear hA0 hval0
  refine (walk a0 a1 a2 b0 b1 b2 W (bd_of_wf f1) (bd_of_wf f2) (bd_of_wf g1) (bd_of_wf g2)).mono fun e W' ⟨he, bel⟩ => ?_
  subst he
  exact ⟨_, rfl, _, _, _, [], _, [], hW', trodAll_mk1 (shut_bool Try.underlying4 _), (trodAll_cons_mk (Below.trod laidOut (by kernel_rfl) (of_decide_eq_true (by kernel_rfl)) k0 bel lt0) (trodAll_cons_mk (Below.trod laidOut (by kernel_rfl) (of_decide_eq_true (by kernel_rfl)) k1 bel lt1) trodAll_mk0)), rfl, bel.frame _, fun h => by cases h⟩

theorem over : Rows.flowGrowsRow.holds Try.pinned (OpenSpec.ofChange Rows.flowGrowsSpec) :=
  OpenClaim.holds_of_wide 5 Try.f5 rfl rfl rfl rfl rfl rfl rfl ⟨rfl, rfl, rfl, rfl, rfl⟩ rfl rfl rfl rfl rfl (by kernel_rfl) Try.func5 (by kernel_rfl)
    (of_decide_eq_true (by kernel_rfl)) (by unfold Func.isWrapper; first | (rw [if_pos (by decide +kernel)]; kernel_rfl) | (rw [if_neg (by decide +kernel)]; exact ⟨rfl, rfl⟩))
    (fun os started H enc _ => lifted os started H enc)

theorem proved : Rows.FlowGrowsSaid := over
#print axioms proved
end Go.Proofs.Ytmagggmmhcchjaa.flowGrows
