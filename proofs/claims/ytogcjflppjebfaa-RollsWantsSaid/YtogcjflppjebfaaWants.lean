/-
  hauberklaw24.RollsWants returns true for every l, a and b, and its arguments read as before. No condition.
  The frame (lifted, over, proved) is a print of a program, after the way of the seat's proof-skeleton.
-/
import Derived.Test.YtogcjflppjebfaaWorks
import Derived.Test.YtogcjflppjebfaaBits
namespace Go.Proofs.Ytogcjflppjebfaa.rollsWants
open Go.ChangeShapes Go.WideShapes Go.ChangeAt Go.RowKit Go.Deep
set_option linter.unusedVariables false

/-- A begun roll in block g whose groups have the sum G; what lay below B ahead of it is as it was. -/
def RollG (w0 : World) (g G : Nat) (w : World) : Prop := Below w0.heap.size w0 w ∧ w0.heap.size ≤ g ∧ ∃ f, gsum f 8 = G ∧ Blk w g 42 (rollCells true f)
theorem groups_g {w0 : World} {g G : Nat} {w : World} (h : RollG w0 g G w) : Calls Try.prog 13 #[.pointer (some ⟨g, 0, none⟩)] w fun e w' => e = .returned (.int .i64 (G : Int)) ∧ w = w' := by
  obtain ⟨_, _, f, hf, hb⟩ := h
  exact (groups_any g true f w hb).mono fun e w' ⟨he, hw⟩ => ⟨by rw [he, hf], hw⟩
theorem wants_g {w0 : World} {g G : Nat} {w : World} (m : Int) (r : Bool) (hr : wantsB G m = r) (h : RollG w0 g G w) :
    Calls Try.prog 15 #[.pointer (some ⟨g, 0, none⟩), .int .i64 m] w fun e w' => e = .returned (.bool r) ∧ w = w' := by
  obtain ⟨_, _, f, hf, hb⟩ := h
  exact (wants_any g true f m w hb).mono fun e w' ⟨he, hw⟩ => ⟨by rw [he, hf, hr], hw⟩
theorem enter_g {w0 : World} {g G : Nat} {w : World} (j : Int) (h : RollG w0 g G w) :
    Calls Try.prog 9 #[.pointer (some ⟨g, 0, none⟩), .int .i64 j] w fun e w' => ∃ (r : Int) (G' : Nat), e = .returned (.int .i64 r) ∧ RollG w0 g G' w' := by
  obtain ⟨hb0, hg, f, hf, hb⟩ := h
  exact (enter_any g f j w hb).mono fun e w' ⟨he, h1, h2, _⟩ => ⟨_, _, he, below_only hb0 h2 hg (Nat.le_refl _), hg, _, rfl, h1⟩
theorem RollG.lt {w0 : World} {g G : Nat} {w : World} (h : RollG w0 g G w) : G < 256 := by
  obtain ⟨_, _, f, rfl, _⟩ := h
  exact gsum_lt f 8

set_option maxRecDepth 100000 in
set_option maxHeartbeats 4000000 in
theorem walk (A : Option Addr) (len cap : Nat) (F0 : Nat → Int) (a b : Int) (w : World) (hl : len ≤ 9223372036854775807)
    (hA : Rd w 1 A len (fun i => [.int .i64 (F0 i)])) (hb : ∀ i, i < len → (-9223372036854775808 ≤ F0 i ∧ F0 i ≤ 9223372036854775807)) :
    Calls Try.prog 5 #[.slice A len cap, .int .i64 a, .int .i64 b] w fun e w' => e = .returned (.bool true) ∧ Below w.heap.size w w' := by
  have HA := Lib.hid hA; clear hA
  have HB := Lib.hid hb; clear hb
  go_enter Try.func5, Try.ntmps5
  go_wp2_with fail
  refine (works_any _).mono ?_; rintro e w1 ⟨rfl, hb1⟩
  go_wp2_with fail
  refine (new_any _).mono ?_; rintro e w2 ⟨rfl, hw2⟩
  have hq : RollG w w1.heap.size 0 w2 := ⟨by rw [hw2]; exact hb1.alloc hb1.size _, hb1.size, fun _ => false, by decide, by rw [hw2]; exact Blk.new _ _ _⟩
  clear hw2
  generalize w1.heap.size = g at hq ⊢
  clear hb1
  go_wp2_with fail
  go_loopw [8] (fun i wr => ∃ k G : Nat, k ≤ len ∧ i = .int .i64 k ∧ RollG w g G wr) (fun i _ => len - (intOf i).toNat)
  case atStart => exact ⟨0, 0, by omega, rfl, hq⟩
  case round =>
    clear hq
    obtain ⟨k, G, hk, rfl, hq⟩ := hrel
    by_cases hlt : k < len
    · obtain ⟨b0, off, rfl, hbl, hc⟩ := HA.out k hlt
      have hc0 : wr.cell? ⟨b0, off + k, none⟩ = some (.int .i64 (F0 k)) := (hq.1.cell (p := ⟨b0, off + k, none⟩) hbl).trans (by have := hc 0 _ rfl; rwa [Nat.mul_one, Nat.add_zero] at this)
      clear hc HA
      obtain ⟨u1, u2⟩ := HB.out k hlt
      generalize F0 k = x0 at *
      go_wp2_with fail
      refine (bring_any _ _ _ u1 u2 (by omega) (by omega)).mono ?_; rintro e w' ⟨rfl, rfl⟩
      go_wp2_with fail
      refine (enter_g _ hq).mono ?_; rintro e w' ⟨r, G', rfl, hq'⟩
      clear hq hc0
      go_wp2_with fail
      go_roundw
      case rel => exact ⟨k + 1, G', by omega, by go_num, hq'⟩
      case measure => simp [intOf]; omega
    · have hG := hq.lt
      go_wp2_with fail
      refine (groups_g hq).mono ?_; rintro e w' ⟨rfl, rfl⟩
      obtain ⟨oZ, hoZ⟩ : ∃ r, wantsB G (-1) = r := ⟨_, rfl⟩
      have hnz : ((G : Int) != 0) = oZ := by rw [← hoZ, wants_all G hG]
      have HZ := Lib.hid hoZ; clear hoZ
      have HO := Lib.hid (wants_or G a b)
      have HN := Lib.hid (wants_and G a b)
      have HC := Lib.hid (wants_comm G a)
      rcases hx : wantsB G a with _ | _
      · rcases hy : wantsB G b with _ | _
        · have X := Lib.hid hx; clear hx
          have Y := Lib.hid hy; clear hy
          have O : Hid (wantsB G (bits .or .i64 a b) = false) := Lib.hid (by simp [HO.out, X.out, Y.out])
          have hc : (bits .and .i64 a G != 0) = false := by rw [HC.out, X.out]
          have Z : Hid (wantsB G (bits .and .i64 a b) = false) := Lib.hid (HN.out X.out)
          clear HO HN HC
          go_wp2_with fail
          refine (wants_g _ _ O.out hq).mono ?_; rintro e w' ⟨rfl, rfl⟩
          go_wp2_with fail
          refine (wants_g _ _ X.out hq).mono ?_; rintro e w' ⟨rfl, rfl⟩
          go_wp2_with fail
          refine (wants_g _ _ Y.out hq).mono ?_; rintro e w' ⟨rfl, rfl⟩
          go_wp2_with fail
          refine (wants_g _ _ Z.out hq).mono ?_; rintro e w' ⟨rfl, rfl⟩
          go_wp2_with fail
          refine (wants_g _ _ X.out hq).mono ?_; rintro e w' ⟨rfl, rfl⟩
          go_wp2_with fail
          refine (wants_g _ _ (wants_zero G) hq).mono ?_; rintro e w' ⟨rfl, rfl⟩
          go_wp2_with fail
          refine (wants_g _ _ (wants_high G hG) hq).mono ?_; rintro e w' ⟨rfl, rfl⟩
          go_wp2_with fail
          refine (wants_g _ _ HZ.out hq).mono ?_; rintro e w' ⟨rfl, rfl⟩
          go_wp2_with fail
          go_ret
          exact ⟨r_bool (decide_eq_true (by omega)), hq.1⟩
        · have X := Lib.hid hx; clear hx
          have Y := Lib.hid hy; clear hy
          have O : Hid (wantsB G (bits .or .i64 a b) = true) := Lib.hid (by simp [HO.out, X.out, Y.out])
          have hc : (bits .and .i64 a G != 0) = false := by rw [HC.out, X.out]
          have Z : Hid (wantsB G (bits .and .i64 a b) = false) := Lib.hid (HN.out X.out)
          clear HO HN HC
          go_wp2_with fail
          refine (wants_g _ _ O.out hq).mono ?_; rintro e w' ⟨rfl, rfl⟩
          go_wp2_with fail
          refine (wants_g _ _ X.out hq).mono ?_; rintro e w' ⟨rfl, rfl⟩
          go_wp2_with fail
          refine (wants_g _ _ Y.out hq).mono ?_; rintro e w' ⟨rfl, rfl⟩
          go_wp2_with fail
          refine (wants_g _ _ Z.out hq).mono ?_; rintro e w' ⟨rfl, rfl⟩
          go_wp2_with fail
          refine (wants_g _ _ X.out hq).mono ?_; rintro e w' ⟨rfl, rfl⟩
          go_wp2_with fail
          refine (wants_g _ _ (wants_zero G) hq).mono ?_; rintro e w' ⟨rfl, rfl⟩
          go_wp2_with fail
          refine (wants_g _ _ (wants_high G hG) hq).mono ?_; rintro e w' ⟨rfl, rfl⟩
          go_wp2_with fail
          refine (wants_g _ _ HZ.out hq).mono ?_; rintro e w' ⟨rfl, rfl⟩
          go_wp2_with fail
          go_ret
          exact ⟨r_bool (decide_eq_true (by omega)), hq.1⟩
      · rcases hz : wantsB G (bits .and .i64 a b) with _ | _
        · have X := Lib.hid hx; clear hx
          have Z := Lib.hid hz; clear hz
          have O : Hid (wantsB G (bits .or .i64 a b) = true) := Lib.hid (by simp [HO.out, X.out])
          have hc : (bits .and .i64 a G != 0) = true := by rw [HC.out, X.out]
          clear HO HN HC
          go_wp2_with fail
          refine (wants_g _ _ O.out hq).mono ?_; rintro e w' ⟨rfl, rfl⟩
          go_wp2_with fail
          refine (wants_g _ _ X.out hq).mono ?_; rintro e w' ⟨rfl, rfl⟩
          go_wp2_with fail
          refine (wants_g _ _ Z.out hq).mono ?_; rintro e w' ⟨rfl, rfl⟩
          go_wp2_with fail
          refine (wants_g _ _ X.out hq).mono ?_; rintro e w' ⟨rfl, rfl⟩
          go_wp2_with fail
          refine (wants_g _ _ (wants_zero G) hq).mono ?_; rintro e w' ⟨rfl, rfl⟩
          go_wp2_with fail
          refine (wants_g _ _ (wants_high G hG) hq).mono ?_; rintro e w' ⟨rfl, rfl⟩
          go_wp2_with fail
          refine (wants_g _ _ HZ.out hq).mono ?_; rintro e w' ⟨rfl, rfl⟩
          go_wp2_with fail
          go_ret
          exact ⟨r_bool (decide_eq_true (by omega)), hq.1⟩
        · have X := Lib.hid hx; clear hx
          have Z := Lib.hid hz; clear hz
          have O : Hid (wantsB G (bits .or .i64 a b) = true) := Lib.hid (by simp [HO.out, X.out])
          have hc : (bits .and .i64 a G != 0) = true := by rw [HC.out, X.out]
          clear HO HN HC
          go_wp2_with fail
          refine (wants_g _ _ O.out hq).mono ?_; rintro e w' ⟨rfl, rfl⟩
          go_wp2_with fail
          refine (wants_g _ _ X.out hq).mono ?_; rintro e w' ⟨rfl, rfl⟩
          go_wp2_with fail
          refine (wants_g _ _ Z.out hq).mono ?_; rintro e w' ⟨rfl, rfl⟩
          go_wp2_with fail
          refine (wants_g _ _ X.out hq).mono ?_; rintro e w' ⟨rfl, rfl⟩
          go_wp2_with fail
          refine (wants_g _ _ X.out hq).mono ?_; rintro e w' ⟨rfl, rfl⟩
          go_wp2_with fail
          refine (wants_g _ _ (wants_zero G) hq).mono ?_; rintro e w' ⟨rfl, rfl⟩
          go_wp2_with fail
          refine (wants_g _ _ (wants_high G hG) hq).mono ?_; rintro e w' ⟨rfl, rfl⟩
          go_wp2_with fail
          refine (wants_g _ _ HZ.out hq).mono ?_; rintro e w' ⟨rfl, rfl⟩
          go_wp2_with fail
          go_ret
          exact ⟨r_bool (decide_eq_true (by omega)), hq.1⟩

set_option maxRecDepth 100000 in
theorem lifted (os : Os) (started : os.Started) (H : Type) (enc : TypeId × Value → H) :
    ReturnsInHanded {} Try.checked os 5 .any (Rows.rollsWantsSpec.pre6 enc Try.prog Try.f5 Rows.rollsWantsRow.domain false) (Rows.rollsWantsSpec.post enc Try.prog Try.f5 false true false false) := by
  refine returnsInHanded_of_change (C := Try.checked) own started (by kernel_rfl) Try.func5
    (ChangeSpec.witness6 (enc := enc) (C := Try.checked) false ⟨#[], #[.slice none 0 0, .int .i64 0, .int .i64 0], []⟩ 8 (by kernel_rfl) (by kernel_rfl) (by kernel_rfl) (by kernel_rfl)) ?_
  intro W base args ds gs before hval0 hW hcnd _
  have hval : ∀ (j : Nat) t v, Try.f5.params[j]? = some t → args[j]? = some v → Value.okWide Try.prog W .any base t v := hval0
  have hW' := hW
  obtain ⟨p, q, hA0, hV, rfl, hfz, hnd⟩ := hW
  have hA : DataW.TrodAll enc Try.prog W 0 (fun _ => true) true Try.f5.params.toList args.toList ds p := hA0
  rw [Try.params5] at hA hval
  obtain ⟨v0, vs0, d0, ds0, p0, q0, hargs, rfl, rfl, h0, r0⟩ := trodAll_cons hA
  obtain ⟨v1, vs1, d1, ds1, p1, q1, rfl, rfl, rfl, h1, r1⟩ := trodAll_cons r0
  obtain ⟨v2, vs2, d2, ds2, p2, q2, rfl, rfl, rfl, h2, r2⟩ := trodAll_cons r1
  obtain ⟨rfl, rfl, rfl⟩ := trodAll_nil r2
  obtain rfl : args = #[v0, v1, v2] := by cases args; simp_all
  obtain ⟨rfl, rfl⟩ := trodVars_none hV
  have k0 := h0
  have lt0 : ∀ x ∈ p0, x.block < W.heap.size := by obtain ⟨m, hm⟩ := k0; exact DataW.trod_lt m _ _ _ hm
  obtain ⟨s0, len0, cap0, rfl⟩ := okWide_slice Try.underlying37 (hval 0 37 v0 rfl rfl)
  obtain ⟨F0, hrd, hml, hwf⟩ := open_rows1 Try.underlying37 Try.underlying3 (by kernel_rfl) h0
  obtain ⟨a1, rfl, rfl, rfl, w1⟩ := open_int Try.underlying3 (hval 1 3 v1 rfl rfl) h1
  obtain ⟨a2, rfl, rfl, rfl, w2⟩ := open_int Try.underlying3 (hval 2 3 v2 rfl rfl) h2
  clear hA0 hval0
  refine (walk s0 len0 cap0 F0 a1 a2 W (by unfold maxLen at hml; omega) hrd (fun i hi => wf_bd (hwf i hi))).mono fun e W' ⟨he, bel⟩ => ?_
  subst he
  exact ⟨_, rfl, _, _, _, [], _, [], hW', trodAll_mk1 (shut_bool Try.underlying4 _), (trodAll_cons_mk (Below.trod laidOut (by kernel_rfl) (of_decide_eq_true (by kernel_rfl)) k0 bel lt0) (trodAll_cons_mk (shut_int Try.underlying3 w1) (trodAll_cons_mk (shut_int Try.underlying3 w2) trodAll_mk0))), rfl, bel.frame _, fun h => by cases h⟩

theorem over : Rows.rollsWantsRow.holds Try.pinned (OpenSpec.ofChange Rows.rollsWantsSpec) :=
  OpenClaim.holds_of_wide 5 Try.f5 rfl rfl rfl rfl rfl rfl rfl ⟨rfl, rfl, rfl, rfl, rfl⟩ rfl rfl rfl rfl rfl (by kernel_rfl) Try.func5 (by kernel_rfl)
    (of_decide_eq_true (by kernel_rfl)) (by unfold Func.isWrapper; first | (rw [if_pos (by decide +kernel)]; kernel_rfl) | (rw [if_neg (by decide +kernel)]; exact ⟨rfl, rfl⟩))
    (fun os started H enc _ => lifted os started H enc)

theorem proved : Rows.RollsWantsSaid := over
#print axioms proved
end Go.Proofs.Ytogcjflppjebfaa.rollsWants
