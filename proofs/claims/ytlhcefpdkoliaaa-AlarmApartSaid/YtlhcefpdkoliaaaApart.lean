/-
  hauberklaw08.AlarmApart returns true for every l and one, and its arguments read as before. No condition.
  The frame (lifted, over, proved) is a print of a program, after the way of the seat's proof-skeleton.
-/
import Derived.Test.YtlhcefpdkoliaaaWorks
import Derived.Test.YtlhcefpdkoliaaaSeq
namespace Go.Proofs.Ytlhcefpdkoliaaa.alarmApart
open Go.ChangeShapes Go.WideShapes Go.ChangeAt Go.RowKit Go.Deep
set_option linter.unusedVariables false

/-- Two sets of timers; what lay below ahead of them is as it was. -/
def A2 (w0 : World) (ga ma gb mb : Nat) (f f' : Nat → Int) (w : World) : Prop :=
  Below w0.heap.size w0 w ∧ w0.heap.size ≤ ga ∧ w0.heap.size ≤ ma ∧ w0.heap.size ≤ gb ∧ w0.heap.size ≤ mb ∧ ma ≠ mb ∧ AK ga ma 8 f w ∧ AK gb mb 8 f' w
/-- All timers but one have the same ticks left. -/
def Alike (o : Nat) (f f' : Nat → Int) : Prop := ∀ i, i < 8 → i ≠ o → f i = f' i
section
variable {w0 w w' : World} {ga ma gb mb o : Nat} {f f' h h' : Nat → Int}
theorem A2.turnA (a : A2 w0 ga ma gb mb f f' w) (hk : AK ga ma 8 h w') (hg : w.grownBy w' (some ma)) : A2 w0 ga ma gb mb h f' w' := by
  obtain ⟨h1, h2, h3, h4, h5, h6, h7, h8⟩ := a
  exact ⟨h1.grown hg (by have := h1.size; omega) (fun j hj => by injection hj with hj; omega), h2, h3, h4, h5, h6, hk, h8.kept hg (fun e => h7.2.1.blk_ne h8.1 (by injection e)) (fun e => h6 (by injection e with e; exact e.symm))⟩
theorem A2.turnB (a : A2 w0 ga ma gb mb f f' w) (hk : AK gb mb 8 h w') (hg : w.grownBy w' (some mb)) : A2 w0 ga ma gb mb f h w' := by
  obtain ⟨h1, h2, h3, h4, h5, h6, h7, h8⟩ := a
  exact ⟨h1.grown hg (by have := h1.size; omega) (fun j hj => by injection hj with hj; omega), h2, h3, h4, h5, h6, h7.kept hg (fun e => h8.2.1.blk_ne h7.1 (by injection e)) (fun e => h6 (by injection e)), hk⟩
theorem A2.drewN (a : A2 w0 ga ma gb mb f f' w) (k : Nat) : A2 w0 ga ma gb mb f f' (w.drewN k) := ⟨below_draws a.1 k, a.2.1, a.2.2.1, a.2.2.2.1, a.2.2.2.2.1, a.2.2.2.2.2.1, a.2.2.2.2.2.2.1.drewN k, a.2.2.2.2.2.2.2.drewN k⟩
theorem A2.alloc (a : A2 w0 ga ma gb mb f f' w) (ob : Obj) : A2 w0 ga ma gb mb f f' (w.alloc ob) := ⟨a.1.alloc a.1.size ob, a.2.1, a.2.2.1, a.2.2.2.1, a.2.2.2.2.1, a.2.2.2.2.2.1, a.2.2.2.2.2.2.1.alloc ob, a.2.2.2.2.2.2.2.alloc ob⟩
theorem A2.own {base : Nat} {v : Value} {l : Nat} {ys : List Value} (a : A2 w0 ga ma gb mb f f' w) (hb : w0.heap.size ≤ base) (ho : w.ownsRow base 3 1 v l ys) (hg : w.grownBy w' v.ownBlock) : A2 w0 ga ma gb mb f f' w' := by
  obtain ⟨h1, h2, h3, h4, h5, h6, h7, h8⟩ := a
  exact ⟨h1.grown hg (by have := h1.size; omega) (fun j hj => Nat.le_trans hb (ho.lt j hj).1), h2, h3, h4, h5, h6,
    h7.kept hg (fun e => own_blk_ne ho h7.1 (by decide) e.symm) (fun e => own_map_ne ho h7.2.1 e.symm), h8.kept hg (fun e => own_blk_ne ho h8.1 (by decide) e.symm) (fun e => own_map_ne ho h8.2.1 e.symm)⟩
theorem setA (j t : Int) (a : A2 w0 ga ma gb mb f f' w) : Calls Try.prog 10 #[.pointer (some ⟨ga, 0, none⟩), .int .i64 j, .int .i64 t] w fun e w' => ∃ r : Int, e = .returned (.int .i64 r) ∧ A2 w0 ga ma gb mb (setS 8 f j t) f' w' :=
  (set_any ga ma 8 f j t w a.2.2.2.2.2.2.1).mono fun e w' ⟨he, h1, h2⟩ => ⟨_, he, a.turnA h1 h2⟩
theorem setB (j t : Int) (a : A2 w0 ga ma gb mb f f' w) : Calls Try.prog 10 #[.pointer (some ⟨gb, 0, none⟩), .int .i64 j, .int .i64 t] w fun e w' => ∃ r : Int, e = .returned (.int .i64 r) ∧ A2 w0 ga ma gb mb f (setS 8 f' j t) w' :=
  (set_any gb mb 8 f' j t w a.2.2.2.2.2.2.2).mono fun e w' ⟨he, h1, h2⟩ => ⟨_, he, a.turnB h1 h2⟩
theorem clearA (j : Int) (a : A2 w0 ga ma gb mb f f' w) : Calls Try.prog 11 #[.pointer (some ⟨ga, 0, none⟩), .int .i64 j] w fun e w' => ∃ r : Int, e = .returned (.int .i64 r) ∧ A2 w0 ga ma gb mb (clearS 8 f j) f' w' :=
  (clear_any ga ma 8 f j w a.2.2.2.2.2.2.1).mono fun e w' ⟨he, h1, h2⟩ => ⟨_, he, a.turnA h1 h2⟩
theorem clearB (j : Int) (a : A2 w0 ga ma gb mb f f' w) : Calls Try.prog 11 #[.pointer (some ⟨gb, 0, none⟩), .int .i64 j] w fun e w' => ∃ r : Int, e = .returned (.int .i64 r) ∧ A2 w0 ga ma gb mb f (clearS 8 f' j) w' :=
  (clear_any gb mb 8 f' j w a.2.2.2.2.2.2.2).mono fun e w' ⟨he, h1, h2⟩ => ⟨_, he, a.turnB h1 h2⟩
theorem fireA (j r : Int) (hr : fireR 8 f j = r) (a : A2 w0 ga ma gb mb f f' w) : Calls Try.prog 12 #[.pointer (some ⟨ga, 0, none⟩), .int .i64 j] w fun e w' => e = .returned (.int .i64 r) ∧ A2 w0 ga ma gb mb (clearS 8 f j) f' w' :=
  (fire_any ga ma 8 f j w a.2.2.2.2.2.2.1).mono fun e w' ⟨he, h1, h2⟩ => ⟨by rw [he, hr], a.turnA h1 h2⟩
theorem fireB (j r : Int) (hr : fireR 8 f' j = r) (a : A2 w0 ga ma gb mb f f' w) : Calls Try.prog 12 #[.pointer (some ⟨gb, 0, none⟩), .int .i64 j] w fun e w' => e = .returned (.int .i64 r) ∧ A2 w0 ga ma gb mb f (clearS 8 f' j) w' :=
  (fire_any gb mb 8 f' j w a.2.2.2.2.2.2.2).mono fun e w' ⟨he, h1, h2⟩ => ⟨by rw [he, hr], a.turnB h1 h2⟩
theorem leftA (j r : Int) (hr : leftR 8 f j = r) (a : A2 w0 ga ma gb mb f f' w) : Calls Try.prog 15 #[.pointer (some ⟨ga, 0, none⟩), .int .i64 j] w fun e w' => e = .returned (.int .i64 r) ∧ w = w' :=
  (left_any ga ma 8 f j w a.2.2.2.2.2.2.1).mono fun e w' ⟨he, h1⟩ => ⟨by rw [he, hr], h1⟩
theorem leftB (j r : Int) (hr : leftR 8 f' j = r) (a : A2 w0 ga ma gb mb f f' w) : Calls Try.prog 15 #[.pointer (some ⟨gb, 0, none⟩), .int .i64 j] w fun e w' => e = .returned (.int .i64 r) ∧ w = w' :=
  (left_any gb mb 8 f' j w a.2.2.2.2.2.2.2).mono fun e w' ⟨he, h1⟩ => ⟨by rw [he, hr], h1⟩
theorem dueA (P : List Int) (hp : dueL f 8 = P) (a : A2 w0 ga ma gb mb f f' w) : Calls Try.prog 13 #[.pointer (some ⟨ga, 0, none⟩)] w fun e w' => ∃ v, e = .returned v ∧ IL w' v P ∧ A2 w0 ga ma gb mb (tk f) f' w' :=
  (due_any a.2.2.2.2.2.2.1).mono fun e w' ⟨v, he, h0, h1, h2⟩ => ⟨v, he, by rw [← hp]; exact h0, a.turnA h1 h2⟩
theorem dueB (P Q : List Int) (hp : dueL f' 8 = Q) (vp : Value) (hl : IL w vp P) (a : A2 w0 ga ma gb mb f f' w) : Calls Try.prog 13 #[.pointer (some ⟨gb, 0, none⟩)] w fun e w' => ∃ v, e = .returned v ∧ IL w' v Q ∧ IL w' vp P ∧ A2 w0 ga ma gb mb f (tk f') w' :=
  (due_any a.2.2.2.2.2.2.2).mono fun e w' ⟨v, he, h0, h1, h2⟩ => ⟨v, he, by rw [← hp]; exact h0, hl.map a.2.2.2.2.2.2.2.2.1 h2, a.turnB h1 h2⟩

theorem setS_at (f : Nat → Int) (k : Nat) (t : Int) (i : Nat) : setS 8 f k t i = if (i = k ∧ k < 8 ∧ 1 ≤ t ∧ t ≤ 10000) then t else f i := by
  unfold setS
  by_cases h : (k : Int) < 0 ∨ ((8 : Nat) : Int) ≤ k ∨ t < 1 ∨ 10000 < t
  · rw [if_pos h, if_neg (by omega)]
  · rw [if_neg h, Int.toNat_natCast]
    unfold upd
    by_cases e : i = k
    · rw [if_pos e, if_pos (by omega)]
    · rw [if_neg e, if_neg (by omega)]
theorem clearS_at (f : Nat → Int) (k : Nat) (i : Nat) : clearS 8 f k i = if (i = k ∧ k < 8) then 0 else f i := by
  unfold clearS
  by_cases h : (k : Int) < 0 ∨ ((8 : Nat) : Int) ≤ k
  · rw [if_pos h, if_neg (by omega)]
  · rw [if_neg h, Int.toNat_natCast]
    unfold upd
    by_cases e : i = k
    · rw [if_pos e, if_pos (by omega)]
    · rw [if_neg e, if_neg (by omega)]
theorem Alike.setOne (h : Alike o f f') (t : Int) : Alike o (setS 8 f o t) f' := fun i hi hne => by rw [setS_at, if_neg (by omega)]; exact h i hi hne
theorem Alike.setBoth (h : Alike o f f') (k : Nat) (t : Int) : Alike o (setS 8 f k t) (setS 8 f' k t) := fun i hi hne => by rw [setS_at, setS_at, h i hi hne]
theorem Alike.clearOne (h : Alike o f f') : Alike o (clearS 8 f o) f' := fun i hi hne => by rw [clearS_at, if_neg (by omega)]; exact h i hi hne
theorem Alike.clearBoth (h : Alike o f f') (k : Nat) : Alike o (clearS 8 f k) (clearS 8 f' k) := fun i hi hne => by rw [clearS_at, clearS_at, h i hi hne]
theorem Alike.tick (h : Alike o f f') : Alike o (tk f) (tk f') := fun i hi hne => by unfold tk; rw [h i hi hne]
theorem Alike.fire (h : Alike o f f') (k : Nat) (hk : k < 8) (hne : k ≠ o) : fireR 8 f' k = fireR 8 f k := by unfold fireR; rw [Int.toNat_natCast, h k hk hne]
theorem Alike.left (h : Alike o f f') (k : Nat) (hk : k < 8) (hne : k ≠ o) : leftR 8 f' k = leftR 8 f k := by unfold leftR; rw [Int.toNat_natCast, h k hk hne]
theorem Alike.due (h : Alike o f f') (n : Nat) (hn : n ≤ 8) : (dueL f n).filter (fun y => y != (o : Int)) = (dueL f' n).filter (fun y => y != (o : Int)) := by
  induction n with
  | zero => rfl
  | succ n ih =>
    have ih := ih (by omega)
    simp only [dueL]
    by_cases e : n = o
    · subst e
      have hx : ∀ c : Prop, [Decidable c] → ∀ l : List Int, (if c then l ++ [(n : Int)] else l).filter (fun y => y != (n : Int)) = l.filter (fun y => y != (n : Int)) := fun c _ l => by
        by_cases hc : c
        · rw [if_pos hc, List.filter_append]; simp
        · rw [if_neg hc]
      rw [hx, hx, ih]
    · rw [h n (by omega) e]
      by_cases hc : f' n = 1
      · rw [if_pos hc, if_pos hc, List.filter_append, List.filter_append, ih]
      · rw [if_neg hc, if_neg hc, ih]
end
/-- Of the first k those that are not o. -/
def ft (o : Int) (P : List Int) (k : Nat) : List Int := (P.take k).filter (fun y => y != o)
theorem ft_len (o : Int) (P : List Int) (k : Nat) : (ft o P k).length ≤ k := by
  have h1 := List.length_filter_le (fun y => y != o) (P.take k)
  have h2 := List.length_take_le k P
  unfold ft
  omega
theorem ft_all (o : Int) (P : List Int) : ft o P P.length = P.filter (fun y => y != o) := by unfold ft; rw [List.take_length]
theorem ft_ne (o : Int) (P : List Int) (k : Nat) (hk : k < P.length) (h : (P.getD k 0 != o) = true) : ft o P (k + 1) = ft o P k ++ [P.getD k 0] := by
  have e : P.getD k 0 = P[k] := by simp [List.getD, List.getElem?_eq_getElem hk]
  rw [e] at h ⊢
  unfold ft
  rw [List.take_succ_eq_append_getElem hk, List.filter_append]
  simp [h]
theorem ft_eq (o : Int) (P : List Int) (k : Nat) (hk : k < P.length) (h : (P.getD k 0 != o) = false) : ft o P (k + 1) = ft o P k := by
  have e : P.getD k 0 = P[k] := by simp [List.getD, List.getElem?_eq_getElem hk]
  rw [e] at h
  unfold ft
  rw [List.take_succ_eq_append_getElem hk, List.filter_append]
  simp [h]

set_option maxRecDepth 1000000 in
set_option maxHeartbeats 32000000 in
theorem walk (A : Option Addr) (len cap : Nat) (F0 F1 F2 : Nat → Int) (one : Int) (w : World) (hl : len ≤ 9223372036854775807) (hone : -9223372036854775808 ≤ one ∧ one ≤ 9223372036854775807)
    (hA : Rd w 3 A len (fun i => [.int .i64 (F0 i), .int .i64 (F1 i), .int .i64 (F2 i)]))
    (hb : ∀ i, i < len → (-9223372036854775808 ≤ F0 i ∧ F0 i ≤ 9223372036854775807) ∧ (-9223372036854775808 ≤ F1 i ∧ F1 i ≤ 9223372036854775807) ∧ (-9223372036854775808 ≤ F2 i ∧ F2 i ≤ 9223372036854775807)) :
    Calls Try.prog 3 #[.slice A len cap, .int .i64 one] w fun e w' => e = .returned (.bool true) ∧ Below w.heap.size w w' := by
  have HA := Lib.hid hA; clear hA
  have HB := Lib.hid hb; clear hb
  obtain ⟨i0, hi0, hz0, hz1, hz2⟩ := info_parts A_info3
  go_enter Try.func3, Try.ntmps3
  go_wp2_with fail
  refine (works_any _).mono ?_; rintro e w1 ⟨rfl, hb1⟩
  have L1 := Lib.hid hb1; clear hb1
  go_wp2_with fail
  have o0 := Int.emod_nonneg one (b := 8) (by omega)
  have o1 := Int.emod_lt_of_pos one (b := 8) (by omega)
  refine (bring_any _ _ _ hone.1 hone.2 (by omega) (by omega)).mono ?_; rintro e w' ⟨rfl, rfl⟩
  clear hone
  obtain ⟨o, ho⟩ := Int.eq_ofNat_of_zero_le o0
  rw [ho] at o0 o1 ⊢
  clear ho o0
  go_wp2_with fail
  refine (new_any 8 _ (by omega) (by omega)).mono ?_; rintro e w2 ⟨rfl, hw2⟩
  have l2 : Below w.heap.size w w2 ∧ AK (w1.heap.size + 1) w1.heap.size 8 (fun _ => 0) w2 ∧ w2.heap.size = w1.heap.size + 2 := by
    rw [hw2]
    exact ⟨(L1.out.alloc L1.out.size _).alloc (by have := L1.out.size; simp; omega) _, new_ak 8 w1 (by omega) (by omega), by simp⟩
  clear hw2
  have L2 := Lib.hid l2; clear l2
  go_wp2_with fail
  refine (new_any 8 _ (by omega) (by omega)).mono ?_; rintro e w3 ⟨rfl, hw3⟩
  have hq : A2 w (w1.heap.size + 1) w1.heap.size (w2.heap.size + 1) w2.heap.size (fun _ => 0) (fun _ => 0) w3 := by
    have e1 := L1.out.size
    have e2 := L2.out.2.2
    rw [hw3]
    exact ⟨(L2.out.1.alloc L2.out.1.size _).alloc (by have := L2.out.1.size; simp; omega) _, by omega, by omega, by omega, by omega, by omega, (L2.out.2.1.alloc _).alloc _, new_ak 8 w2 (by omega) (by omega)⟩
  clear hw3 L1 L2
  have Q0 := Lib.hid hq; clear hq
  obtain ⟨ga, hga⟩ : ∃ ga, ga = w1.heap.size + 1 := ⟨_, rfl⟩
  obtain ⟨gb, hgb⟩ : ∃ gb, gb = w2.heap.size + 1 := ⟨_, rfl⟩
  rw [← hga, ← hgb] at Q0 ⊢
  clear hga hgb
  generalize w1.heap.size = ma at *
  generalize w2.heap.size = mb at *
  go_wp2_with fail
  go_loopw [9] (fun i wr => ∃ (x : Nat) (f f' : Nat → Int), x ≤ len ∧ i = .int .i64 x ∧ A2 w ga ma gb mb f f' wr ∧ Alike o f f') (fun i _ => len - (intOf i).toNat)
  case atStart => exact ⟨0, _, _, by omega, rfl, Q0.out, fun i _ _ => rfl⟩
  case round =>
    clear Q0
    obtain ⟨x, f, f', hk, rfl, hq, hal⟩ := hrel
    have HAL := Lib.hid hal; clear hal
    by_cases hlt : x < len
    · obtain ⟨b0, off, rfl, hbl, hc⟩ := HA.out x hlt
      have hc0 : wr.cell? ⟨b0, off + x * 3, none⟩ = some (.int .i64 (F0 x)) := (hq.1.cell (p := ⟨b0, off + x * 3, none⟩) hbl).trans (hc 0 _ rfl)
      have hc1 : wr.cell? ⟨b0, off + x * 3 + 1, none⟩ = some (.int .i64 (F1 x)) := (hq.1.cell (p := ⟨b0, off + x * 3 + 1, none⟩) hbl).trans (hc 1 _ rfl)
      have hc2 : wr.cell? ⟨b0, off + x * 3 + 2, none⟩ = some (.int .i64 (F2 x)) := (hq.1.cell (p := ⟨b0, off + x * 3 + 2, none⟩) hbl).trans (hc 2 _ rfl)
      clear hc HA
      obtain ⟨⟨u1, u2⟩, ⟨u3, u4⟩, ⟨u5, u6⟩⟩ := HB.out x hlt
      generalize F0 x = wh at *
      generalize F1 x = kd at *
      generalize F2 x = tc at *
      have p1 : (0 : Int) ≤ (x : Int) := by omega
      have p2 : (x : Int) < (len : Int) := by omega
      have m0 := Int.emod_nonneg wh (b := 4) (by omega)
      have m1 := Int.emod_lt_of_pos wh (b := 4) (by omega)
      have m2 := Int.emod_nonneg kd (b := 8) (by omega)
      have m3 := Int.emod_lt_of_pos kd (b := 8) (by omega)
      have m4 := Int.emod_nonneg tc (b := 20) (by omega)
      have m5 := Int.emod_lt_of_pos tc (b := 20) (by omega)
      have HQ := Lib.hid hq; clear hq
      go_wp2_with fail
      have hS0 : wr.drew.cell? ⟨b0, off + x * 3 + 1, none⟩ = some (.int .i64 kd) ∧ wr.drew.cell? ⟨b0, off + x * 3 + 2, none⟩ = some (.int .i64 tc) := ⟨hc1, hc2⟩
      have hc0 : wr.drew.cell? ⟨b0, off + x * 3, none⟩ = some (.int .i64 wh) := hc0
      clear hc1 hc2
      refine region_seq [(0, true), (1, true), (2, true), (3, true), (4, true), (6, true), (7, true), (8, true), (9, true), (10, true), (5, false), (11, false), (12, true), (13, true), (14, true)] (fun w1 => w1.cell? ⟨b0, off + x * 3 + 1, none⟩ = some (.int .i64 kd) ∧ w1.cell? ⟨b0, off + x * 3 + 2, none⟩ = some (.int .i64 tc)) (by kernel_rfl) (by kernel_rfl) (Nat.le_of_eq (by kernel_rfl)) (by kernel_rfl) (fun _ _ _ _ _ h => h) ?_
      refine seq_take (by rfl) (by rfl) hS0 (v := ?_) ?_ ?_
      rotate_left
      · intro w1 hSw; (try dsimp only at hSw); simp only [List.getElem_toArray, List.getElem_cons_zero]; (try go_simp); try with_reducible rfl
      simp only [Act.put, List.getElem_toArray, List.getElem_cons_zero, List.setIfInBounds_toArray, List.set_cons_zero, List.set_cons_succ]
      refine seq_take (by rfl) (by rfl) hS0 (v := ?_) ?_ ?_
      rotate_left
      · intro w1 hSw; (try dsimp only at hSw); simp only [List.getElem_toArray, List.getElem_cons_zero, List.getElem_cons_succ]; (try go_simp); try with_reducible rfl
      simp only [Act.put, List.getElem_toArray, List.getElem_cons_zero, List.getElem_cons_succ, List.setIfInBounds_toArray, List.set_cons_zero, List.set_cons_succ]
      refine seq_take (by rfl) (by rfl) hS0 (v := ?_) ?_ ?_
      rotate_left
      · intro w1 hSw; (try dsimp only at hSw); simp only [List.getElem_toArray, List.getElem_cons_zero, List.getElem_cons_succ]; (try go_simp); try with_reducible rfl
      simp only [Act.put, List.getElem_toArray, List.getElem_cons_zero, List.getElem_cons_succ, List.setIfInBounds_toArray, List.set_cons_zero, List.set_cons_succ]
      refine seq_take (by rfl) (by rfl) hS0 (v := ?_) ?_ ?_
      rotate_left
      · intro w1 hSw; (try dsimp only at hSw); simp only [List.getElem_toArray, List.getElem_cons_zero, List.getElem_cons_succ]; (try go_simp); try with_reducible rfl
      simp only [Act.put, List.getElem_toArray, List.getElem_cons_zero, List.getElem_cons_succ, List.setIfInBounds_toArray, List.set_cons_zero, List.set_cons_succ]
      refine seq_take (by rfl) (by rfl) hS0 (v := ?_) ?_ ?_
      rotate_left
      · intro w1 hSw; (try dsimp only at hSw); simp only [List.getElem_toArray, List.getElem_cons_zero, List.getElem_cons_succ]; (try go_simp); try with_reducible rfl
      simp only [Act.put, List.getElem_toArray, List.getElem_cons_zero, List.getElem_cons_succ, List.setIfInBounds_toArray, List.set_cons_zero, List.set_cons_succ]
      refine seq_take (by rfl) (by rfl) hS0 (v := ?_) ?_ ?_
      rotate_left
      · intro w1 hSw; (try dsimp only at hSw); simp only [List.getElem_toArray, List.getElem_cons_zero, List.getElem_cons_succ]; (try go_simp); try with_reducible rfl
      simp only [Act.put, List.getElem_toArray, List.getElem_cons_zero, List.getElem_cons_succ, List.setIfInBounds_toArray, List.set_cons_zero, List.set_cons_succ]
      refine seq_take (by rfl) (by rfl) hS0 (v := ?_) ?_ ?_
      rotate_left
      · intro w1 hSw; (try dsimp only at hSw); simp only [List.getElem_toArray, List.getElem_cons_zero, List.getElem_cons_succ]; (try go_simp); try with_reducible rfl
      simp only [Act.put, List.getElem_toArray, List.getElem_cons_zero, List.getElem_cons_succ, List.setIfInBounds_toArray, List.set_cons_zero, List.set_cons_succ]
      refine seq_take (by rfl) (by rfl) hS0 (v := ?_) ?_ ?_
      rotate_left
      · intro w1 hSw; (try dsimp only at hSw); simp only [List.getElem_toArray, List.getElem_cons_zero, List.getElem_cons_succ]; (try go_simp); try with_reducible rfl
      simp only [Act.put, List.getElem_toArray, List.getElem_cons_zero, List.getElem_cons_succ, List.setIfInBounds_toArray, List.set_cons_zero, List.set_cons_succ]
      refine seq_take (by rfl) (by rfl) hS0 (v := ?_) ?_ ?_
      rotate_left
      · intro w1 hSw; (try dsimp only at hSw); simp only [List.getElem_toArray, List.getElem_cons_zero, List.getElem_cons_succ]; (try go_simp); try with_reducible rfl
      simp only [Act.put, List.getElem_toArray, List.getElem_cons_zero, List.getElem_cons_succ, List.setIfInBounds_toArray, List.set_cons_zero, List.set_cons_succ]
      refine seq_take (by rfl) (by rfl) hS0 (v := ?_) ?_ ?_
      rotate_left
      · intro w1 hSw; (try dsimp only at hSw); simp only [List.getElem_toArray, List.getElem_cons_zero, List.getElem_cons_succ]; (try go_simp); try with_reducible rfl
      simp only [Act.put, List.getElem_toArray, List.getElem_cons_zero, List.getElem_cons_succ, List.setIfInBounds_toArray, List.set_cons_zero, List.set_cons_succ]
      refine seq_call (by rfl) (by rfl) ?_
      intro K hK
      simp only [List.getElem_toArray, List.getElem_cons_zero, List.getElem_cons_succ]
      go_simp
      refine (bring_any kd 8 _ u3 u4 (by omega) (by omega)).mono ?_; rintro e w1 ⟨rfl, rfl⟩
      refine hK _ _ hS0 ?_
      clear hK K
      refine seq_call (by rfl) (by rfl) ?_
      intro K hK
      simp only [List.getElem_toArray, List.getElem_cons_zero, List.getElem_cons_succ]
      go_simp
      refine (bring_any tc 20 _ u5 u6 (by omega) (by omega)).mono ?_; rintro e w1 ⟨rfl, rfl⟩
      refine hK _ _ hS0 ?_
      clear hK K
      refine seq_take (by rfl) (by rfl) hS0 (v := ?_) ?_ ?_
      rotate_left
      · intro w1 hSw; (try dsimp only at hSw); simp only [List.getElem_toArray, List.getElem_cons_zero, List.getElem_cons_succ]; (try go_simp); try with_reducible rfl
      simp only [Act.put, List.getElem_toArray, List.getElem_cons_zero, List.getElem_cons_succ, List.setIfInBounds_toArray, List.set_cons_zero, List.set_cons_succ]
      refine seq_take (by rfl) (by rfl) hS0 (v := ?_) ?_ ?_
      rotate_left
      · intro w1 hSw; (try dsimp only at hSw); simp only [List.getElem_toArray, List.getElem_cons_zero, List.getElem_cons_succ]; (try go_simp); try with_reducible rfl
      simp only [Act.put, List.getElem_toArray, List.getElem_cons_zero, List.getElem_cons_succ, List.setIfInBounds_toArray, List.set_cons_zero, List.set_cons_succ]
      refine seq_take (by rfl) (by rfl) hS0 (v := ?_) ?_ ?_
      rotate_left
      · intro w1 hSw; (try dsimp only at hSw); simp only [List.getElem_toArray, List.getElem_cons_zero, List.getElem_cons_succ]; (try go_simp); try with_reducible rfl
      simp only [Act.put, List.getElem_toArray, List.getElem_cons_zero, List.getElem_cons_succ, List.setIfInBounds_toArray, List.set_cons_zero, List.set_cons_succ]
      refine seq_done ?_
      clear hS0
      have hq := HQ.out.drewN 1
      replace hq : A2 w ga ma gb mb f f' wr.drew := hq
      clear HQ
      generalize wr.drew = W1 at *
      go_wp2_with fail
      refine (bring_any _ _ _ u1 u2 (by omega) (by omega)).mono ?_; rintro e w' ⟨rfl, rfl⟩
      clear hc0
      generalize wh % 4 = v at *
      clear u1 u2 u3 u4 u5 u6
      obtain ⟨t, ht⟩ : ∃ t, 1 + tc % 20 = t := ⟨_, rfl⟩
      rw [ht]
      have t1 : 1 ≤ t := by omega
      have t2 : t ≤ 20 := by omega
      have hwt : IntKind.i64.wrap t = t := wrap_small t (by omega) (by omega)
      rw [hwt]
      clear hwt
      clear ht m4 m5
      obtain ⟨k, hk8⟩ := Int.eq_ofNat_of_zero_le m2
      rw [hk8] at m3 ⊢
      clear hk8 m2
      obtain rfl | rfl | rfl | rfl : v = 0 ∨ v = 1 ∨ v = 2 ∨ v = 3 := by omega
      · by_cases hko : k = o
        · have hne : ((k : Int) != (o : Int)) = false := by simp [hko]
          have hko2 : o = k := hko.symm
          clear hko
          subst hko2
          go_wp2_with fail
          refine (setA _ _ hq).mono ?_; rintro e w' ⟨r1, rfl, hq1⟩; clear hq
          go_wp2_with fail
          have HQ := Lib.hid hq1
          have HAL2 := Lib.hid (HAL.out.setOne t)
          clear hq1
          go_wp2_with fail
          go_loop [19] (fun i => ∃ j : Nat, j ≤ 8 ∧ i = .int .i64 j) (fun i => 8 - (intOf i).toNat)
          case atStart => exact ⟨0, by omega, rfl⟩
          case round =>
            obtain ⟨j, hj, rfl⟩ := hrel
            by_cases hj8 : j < 8
            · by_cases hjo : j = o
              · have hne : ((j : Int) != (o : Int)) = false := by simp [hjo]
                have HJO := Lib.hid hjo; clear hjo
                go_wp2_with fail
                go_round
                case rel => exact ⟨j + 1, by omega, by go_num⟩
                case measure => simp [intOf]; omega
              · have hne : ((j : Int) != (o : Int)) = true := by simp; omega
                have E := Lib.hid (HAL2.out.left j hj8 hjo)
                clear hjo
                obtain ⟨lf, hlf⟩ : ∃ r, leftR 8 (setS 8 f o t) j = r := ⟨_, rfl⟩
                have HLF := Lib.hid hlf; clear hlf
                go_wp2_with fail
                refine (leftA j lf HLF.out HQ.out).mono ?_; rintro e w' ⟨rfl, rfl⟩
                go_wp2_with fail
                refine (leftB j lf (by rw [E.out, HLF.out]) HQ.out).mono ?_; rintro e w' ⟨rfl, rfl⟩
                go_wp2_with fail
                go_round
                case rel => exact ⟨j + 1, by omega, by go_num⟩
                case measure => simp [intOf]; omega
            · go_wp2_with fail
              go_roundw
              case rel => exact ⟨x + 1, _, _, by omega, by go_num, HQ.out, HAL2.out⟩
              case measure => simp [intOf]; omega

        · have hne : ((k : Int) != (o : Int)) = true := by simp; omega
          have HKO := Lib.hid hko; clear hko
          go_wp2_with fail
          refine (setA _ _ hq).mono ?_; rintro e w' ⟨r1, rfl, hq1⟩; clear hq
          go_wp2_with fail
          refine (setB _ _ hq1).mono ?_; rintro e w' ⟨r2, rfl, hq2⟩; clear hq1
          go_wp2_with fail
          have HQ := Lib.hid hq2
          have HAL2 := Lib.hid (HAL.out.setBoth k t)
          clear hq2
          go_wp2_with fail
          go_loop [19] (fun i => ∃ j : Nat, j ≤ 8 ∧ i = .int .i64 j) (fun i => 8 - (intOf i).toNat)
          case atStart => exact ⟨0, by omega, rfl⟩
          case round =>
            obtain ⟨j, hj, rfl⟩ := hrel
            by_cases hj8 : j < 8
            · by_cases hjo : j = o
              · have hne : ((j : Int) != (o : Int)) = false := by simp [hjo]
                have HJO := Lib.hid hjo; clear hjo
                go_wp2_with fail
                go_round
                case rel => exact ⟨j + 1, by omega, by go_num⟩
                case measure => simp [intOf]; omega
              · have hne : ((j : Int) != (o : Int)) = true := by simp; omega
                have E := Lib.hid (HAL2.out.left j hj8 hjo)
                clear hjo
                obtain ⟨lf, hlf⟩ : ∃ r, leftR 8 (setS 8 f k t) j = r := ⟨_, rfl⟩
                have HLF := Lib.hid hlf; clear hlf
                go_wp2_with fail
                refine (leftA j lf HLF.out HQ.out).mono ?_; rintro e w' ⟨rfl, rfl⟩
                go_wp2_with fail
                refine (leftB j lf (by rw [E.out, HLF.out]) HQ.out).mono ?_; rintro e w' ⟨rfl, rfl⟩
                go_wp2_with fail
                go_round
                case rel => exact ⟨j + 1, by omega, by go_num⟩
                case measure => simp [intOf]; omega
            · go_wp2_with fail
              go_roundw
              case rel => exact ⟨x + 1, _, _, by omega, by go_num, HQ.out, HAL2.out⟩
              case measure => simp [intOf]; omega

      · by_cases hko : k = o
        · have hne : ((k : Int) != (o : Int)) = false := by simp [hko]
          have hko2 : o = k := hko.symm
          clear hko
          subst hko2
          go_wp2_with fail
          refine (clearA _ hq).mono ?_; rintro e w' ⟨r1, rfl, hq1⟩; clear hq
          go_wp2_with fail
          have HQ := Lib.hid hq1
          have HAL2 := Lib.hid (HAL.out.clearOne)
          clear hq1
          go_wp2_with fail
          go_loop [19] (fun i => ∃ j : Nat, j ≤ 8 ∧ i = .int .i64 j) (fun i => 8 - (intOf i).toNat)
          case atStart => exact ⟨0, by omega, rfl⟩
          case round =>
            obtain ⟨j, hj, rfl⟩ := hrel
            by_cases hj8 : j < 8
            · by_cases hjo : j = o
              · have hne : ((j : Int) != (o : Int)) = false := by simp [hjo]
                have HJO := Lib.hid hjo; clear hjo
                go_wp2_with fail
                go_round
                case rel => exact ⟨j + 1, by omega, by go_num⟩
                case measure => simp [intOf]; omega
              · have hne : ((j : Int) != (o : Int)) = true := by simp; omega
                have E := Lib.hid (HAL2.out.left j hj8 hjo)
                clear hjo
                obtain ⟨lf, hlf⟩ : ∃ r, leftR 8 (clearS 8 f o) j = r := ⟨_, rfl⟩
                have HLF := Lib.hid hlf; clear hlf
                go_wp2_with fail
                refine (leftA j lf HLF.out HQ.out).mono ?_; rintro e w' ⟨rfl, rfl⟩
                go_wp2_with fail
                refine (leftB j lf (by rw [E.out, HLF.out]) HQ.out).mono ?_; rintro e w' ⟨rfl, rfl⟩
                go_wp2_with fail
                go_round
                case rel => exact ⟨j + 1, by omega, by go_num⟩
                case measure => simp [intOf]; omega
            · go_wp2_with fail
              go_roundw
              case rel => exact ⟨x + 1, _, _, by omega, by go_num, HQ.out, HAL2.out⟩
              case measure => simp [intOf]; omega

        · have hne : ((k : Int) != (o : Int)) = true := by simp; omega
          have HKO := Lib.hid hko; clear hko
          go_wp2_with fail
          refine (clearA _ hq).mono ?_; rintro e w' ⟨r1, rfl, hq1⟩; clear hq
          go_wp2_with fail
          refine (clearB _ hq1).mono ?_; rintro e w' ⟨r2, rfl, hq2⟩; clear hq1
          go_wp2_with fail
          have HQ := Lib.hid hq2
          have HAL2 := Lib.hid (HAL.out.clearBoth k)
          clear hq2
          go_wp2_with fail
          go_loop [19] (fun i => ∃ j : Nat, j ≤ 8 ∧ i = .int .i64 j) (fun i => 8 - (intOf i).toNat)
          case atStart => exact ⟨0, by omega, rfl⟩
          case round =>
            obtain ⟨j, hj, rfl⟩ := hrel
            by_cases hj8 : j < 8
            · by_cases hjo : j = o
              · have hne : ((j : Int) != (o : Int)) = false := by simp [hjo]
                have HJO := Lib.hid hjo; clear hjo
                go_wp2_with fail
                go_round
                case rel => exact ⟨j + 1, by omega, by go_num⟩
                case measure => simp [intOf]; omega
              · have hne : ((j : Int) != (o : Int)) = true := by simp; omega
                have E := Lib.hid (HAL2.out.left j hj8 hjo)
                clear hjo
                obtain ⟨lf, hlf⟩ : ∃ r, leftR 8 (clearS 8 f k) j = r := ⟨_, rfl⟩
                have HLF := Lib.hid hlf; clear hlf
                go_wp2_with fail
                refine (leftA j lf HLF.out HQ.out).mono ?_; rintro e w' ⟨rfl, rfl⟩
                go_wp2_with fail
                refine (leftB j lf (by rw [E.out, HLF.out]) HQ.out).mono ?_; rintro e w' ⟨rfl, rfl⟩
                go_wp2_with fail
                go_round
                case rel => exact ⟨j + 1, by omega, by go_num⟩
                case measure => simp [intOf]; omega
            · go_wp2_with fail
              go_roundw
              case rel => exact ⟨x + 1, _, _, by omega, by go_num, HQ.out, HAL2.out⟩
              case measure => simp [intOf]; omega

      · obtain ⟨fr, hfr⟩ : ∃ r, fireR 8 f k = r := ⟨_, rfl⟩
        have HFR := Lib.hid hfr; clear hfr
        by_cases hko : k = o
        · have hne : ((k : Int) != (o : Int)) = false := by simp [hko]
          have hko2 : o = k := hko.symm
          clear hko
          subst hko2
          go_wp2_with fail
          refine (fireA o fr HFR.out hq).mono ?_; rintro e w' ⟨rfl, hq1⟩; clear hq
          go_wp2_with fail
          have HQ := Lib.hid hq1
          have HAL2 := Lib.hid (HAL.out.clearOne)
          clear hq1
          go_wp2_with fail
          go_loop [19] (fun i => ∃ j : Nat, j ≤ 8 ∧ i = .int .i64 j) (fun i => 8 - (intOf i).toNat)
          case atStart => exact ⟨0, by omega, rfl⟩
          case round =>
            obtain ⟨j, hj, rfl⟩ := hrel
            by_cases hj8 : j < 8
            · by_cases hjo : j = o
              · have hne : ((j : Int) != (o : Int)) = false := by simp [hjo]
                have HJO := Lib.hid hjo; clear hjo
                go_wp2_with fail
                go_round
                case rel => exact ⟨j + 1, by omega, by go_num⟩
                case measure => simp [intOf]; omega
              · have hne : ((j : Int) != (o : Int)) = true := by simp; omega
                have E := Lib.hid (HAL2.out.left j hj8 hjo)
                clear hjo
                obtain ⟨lf, hlf⟩ : ∃ r, leftR 8 (clearS 8 f o) j = r := ⟨_, rfl⟩
                have HLF := Lib.hid hlf; clear hlf
                go_wp2_with fail
                refine (leftA j lf HLF.out HQ.out).mono ?_; rintro e w' ⟨rfl, rfl⟩
                go_wp2_with fail
                refine (leftB j lf (by rw [E.out, HLF.out]) HQ.out).mono ?_; rintro e w' ⟨rfl, rfl⟩
                go_wp2_with fail
                go_round
                case rel => exact ⟨j + 1, by omega, by go_num⟩
                case measure => simp [intOf]; omega
            · go_wp2_with fail
              go_roundw
              case rel => exact ⟨x + 1, _, _, by omega, by go_num, HQ.out, HAL2.out⟩
              case measure => simp [intOf]; omega

        · have hne : ((k : Int) != (o : Int)) = true := by simp; omega
          have HKO := Lib.hid hko; clear hko
          go_wp2_with fail
          refine (fireA k fr HFR.out hq).mono ?_; rintro e w' ⟨rfl, hq1⟩; clear hq
          go_wp2_with fail
          refine (fireB k fr (by rw [HAL.out.fire k (by omega) HKO.out, HFR.out]) hq1).mono ?_; rintro e w' ⟨rfl, hq2⟩; clear hq1
          go_wp2_with fail
          have HQ := Lib.hid hq2
          have HAL2 := Lib.hid (HAL.out.clearBoth k)
          clear hq2
          go_wp2_with fail
          go_loop [19] (fun i => ∃ j : Nat, j ≤ 8 ∧ i = .int .i64 j) (fun i => 8 - (intOf i).toNat)
          case atStart => exact ⟨0, by omega, rfl⟩
          case round =>
            obtain ⟨j, hj, rfl⟩ := hrel
            by_cases hj8 : j < 8
            · by_cases hjo : j = o
              · have hne : ((j : Int) != (o : Int)) = false := by simp [hjo]
                have HJO := Lib.hid hjo; clear hjo
                go_wp2_with fail
                go_round
                case rel => exact ⟨j + 1, by omega, by go_num⟩
                case measure => simp [intOf]; omega
              · have hne : ((j : Int) != (o : Int)) = true := by simp; omega
                have E := Lib.hid (HAL2.out.left j hj8 hjo)
                clear hjo
                obtain ⟨lf, hlf⟩ : ∃ r, leftR 8 (clearS 8 f k) j = r := ⟨_, rfl⟩
                have HLF := Lib.hid hlf; clear hlf
                go_wp2_with fail
                refine (leftA j lf HLF.out HQ.out).mono ?_; rintro e w' ⟨rfl, rfl⟩
                go_wp2_with fail
                refine (leftB j lf (by rw [E.out, HLF.out]) HQ.out).mono ?_; rintro e w' ⟨rfl, rfl⟩
                go_wp2_with fail
                go_round
                case rel => exact ⟨j + 1, by omega, by go_num⟩
                case measure => simp [intOf]; omega
            · go_wp2_with fail
              go_roundw
              case rel => exact ⟨x + 1, _, _, by omega, by go_num, HQ.out, HAL2.out⟩
              case measure => simp [intOf]; omega

      · obtain ⟨P, hP⟩ : ∃ P, dueL f 8 = P := ⟨_, rfl⟩
        obtain ⟨Q, hQ⟩ : ∃ Q, dueL f' 8 = Q := ⟨_, rfl⟩
        have hPl : P.length ≤ 8 := by rw [← hP]; exact dueL_len f 8
        have hQl : Q.length ≤ 8 := by rw [← hQ]; exact dueL_len f' 8
        have HPQ : Hid (P.filter (fun y => y != (o : Int)) = Q.filter (fun y => y != (o : Int))) := Lib.hid (by rw [← hP, ← hQ]; exact HAL.out.due 8 (Nat.le_refl _))
        have HP := Lib.hid hP; clear hP
        have HQ := Lib.hid hQ; clear hQ
        go_wp2_with fail
        refine (dueA P HP.out hq).mono ?_; rintro e w' ⟨vp, rfl, hvp, hq1⟩; clear hq
        go_wp2_with fail
        refine (dueB P Q HQ.out vp hvp hq1).mono ?_; rintro e w5 ⟨vq, rfl, hvq, hvp, hq2⟩; clear hq1
        obtain ⟨Ap, cp, rfl, hcp⟩ := hvp
        have HPC := Lib.hid hcp; clear hcp
        have HCQ := Lib.hid hvq
        obtain ⟨Bq, dq, rfl, _⟩ := hvq
        have hb5 : w.heap.size ≤ w5.heap.size := hq2.1.size
        clear HP HQ
        go_wp2_with fail
        go_loopw [13, 17] (fun v i wr => ∃ j : Nat, j ≤ P.length ∧ i = .int .i64 j ∧ wr.ownsRow w5.heap.size 3 1 v (ft o P j).length ((ft o P j).map (Value.int .i64)) ∧ Below w5.heap.size w5 wr ∧ A2 w ga ma gb mb (tk f) (tk f') wr) (fun _ i _ => P.length - (intOf i).toNat)
        case atStart => exact ⟨0, by omega, rfl, World.ownsRow_nil _ _ _ _, Below.refl _ _, hq2⟩
        case round =>
          obtain ⟨j, hj, rfl, hown, hbel, hq2⟩ := hrel
          have hfl := ft_len o P j
          by_cases hjl : j < P.length
          · obtain ⟨bp, op, rfl, hbp, hcp⟩ := HPC.out j hjl
            have hcp : wr.cell? ⟨bp, op + j, none⟩ = some (.int .i64 (P.getD j 0)) := (hbel.cell (p := ⟨bp, op + j, none⟩) hbp).trans hcp
            by_cases hy : (P.getD j 0 != (o : Int)) = true
            · have E := Lib.hid (ft_ne o P j hjl hy)
              generalize P.getD j 0 = y at *
              have HOW := Lib.hid hown; clear hown
              have hsz := hbel.size
              have HBL := Lib.hid hbel; clear hbel
              have HQ2 := Lib.hid hq2; clear hq2
              go_wp2_with (first | (at_builtin; refine wpList_append_own _ rfl _ _ 33 rfl w5.heap.size 3 i0 (.int .i64 0) 1 8 Try.underlying33 hi0 hz0 hz1 hz2 rfl (by decide) _ _ _ rfl (HOW.out.alloc _) ⟨wr.heap.size, 0, none⟩ 1 1 [.int .i64 y] rfl rfl (cell_one_new _ _ _) (ints_oneCell _ [y]) (by unfold maxLen; omega) (by omega) (by simp; omega) ?_; intro v' w2 hown2 hgrow2 _))
              have hq3 := (HQ2.out.alloc (.cells #[.int .i64 y] 3)).own (base := w5.heap.size) hb5 (HOW.out.alloc (.cells #[.int .i64 y] 3)) hgrow2
              have hb3 := (HBL.out.alloc hsz (.cells #[.int .i64 y] 3)).grown hgrow2 (by simp; omega) (fun j hj => (HOW.out.lt j hj).1)
              have HQ3 := Lib.hid hq3; clear hq3
              have HB3 := Lib.hid hb3; clear hb3
              have HW3 := Lib.hid hown2; clear hown2 hgrow2 hcp
              go_wp2_with fail
              go_roundw
              case rel => first | exact ⟨j + 1, by omega, by go_num, by rw [E.out]; simpa using HW3.out, HB3.out, HQ3.out⟩ | exact ⟨_, _, _, _, _, _, _, _, _, _, _, _, _, _, _, _, _, _, _, _, _, ⟨j + 1, by omega, by go_num, by rw [E.out]; simpa using HW3.out, HB3.out, HQ3.out⟩, rfl⟩
              case measure => simp [intOf]; omega
            · have hy : (P.getD j 0 != (o : Int)) = false := by simpa using hy
              have E := Lib.hid (ft_eq o P j hjl hy)
              generalize P.getD j 0 = y at *
              go_wp2_with fail
              go_roundw
              case rel => exact ⟨j + 1, by omega, by go_num, by rw [E.out]; exact hown, hbel, hq2⟩
              case measure => simp [intOf]; omega
          · obtain rfl : j = P.length := by omega
            rw [ft_all] at hown hfl
            have hx := IL.of_own hown
            have HX := Lib.hid hx; clear hx
            have HFX := Lib.hid hfl; clear hfl hown
            have hcq := HCQ.out.below hbel
            have hbW : w.heap.size ≤ wr.heap.size := hq2.1.size
            obtain ⟨Aq, cq, hqe, hcq⟩ := hcq
            obtain ⟨rfl, rfl⟩ : Aq = Bq ∧ cq = dq := by injection hqe with h1 _ h3; exact ⟨h1.symm, h3.symm⟩
            clear hqe hbel HCQ
            have HQC := Lib.hid hcq; clear hcq
            obtain ⟨WB, hWB⟩ : ∃ WB, WB = wr := ⟨_, rfl⟩
            rw [← hWB] at HX HQC hq2 hbW ⊢
            clear hWB
            go_wp2_with fail
            go_loopw [14, 18] (fun v i wr => ∃ j : Nat, j ≤ Q.length ∧ i = .int .i64 j ∧ wr.ownsRow WB.heap.size 3 1 v (ft o Q j).length ((ft o Q j).map (Value.int .i64)) ∧ Below WB.heap.size WB wr ∧ A2 w ga ma gb mb (tk f) (tk f') wr) (fun _ i _ => Q.length - (intOf i).toNat)
            case atStart => exact ⟨0, by omega, rfl, World.ownsRow_nil _ _ _ _, Below.refl _ _, hq2⟩
            case round =>
              obtain ⟨j, hj, rfl, hown, hbel, hq2⟩ := hrel
              have hfl := ft_len o Q j
              by_cases hjl : j < Q.length
              · obtain ⟨bp, op, rfl, hbp, hcp⟩ := HQC.out j hjl
                have hcp : wr.cell? ⟨bp, op + j, none⟩ = some (.int .i64 (Q.getD j 0)) := (hbel.cell (p := ⟨bp, op + j, none⟩) hbp).trans hcp
                by_cases hy : (Q.getD j 0 != (o : Int)) = true
                · have E := Lib.hid (ft_ne o Q j hjl hy)
                  generalize Q.getD j 0 = y at *
                  have HOW := Lib.hid hown; clear hown
                  have hsz := hbel.size
                  have HBL := Lib.hid hbel; clear hbel
                  have HQ2 := Lib.hid hq2; clear hq2
                  go_wp2_with (first | (at_builtin; refine wpList_append_own _ rfl _ _ 33 rfl WB.heap.size 3 i0 (.int .i64 0) 1 8 Try.underlying33 hi0 hz0 hz1 hz2 rfl (by decide) _ _ _ rfl (HOW.out.alloc _) ⟨wr.heap.size, 0, none⟩ 1 1 [.int .i64 y] rfl rfl (cell_one_new _ _ _) (ints_oneCell _ [y]) (by unfold maxLen; omega) (by omega) (by simp; omega) ?_; intro v' w2 hown2 hgrow2 _))
                  have hq3 := (HQ2.out.alloc (.cells #[.int .i64 y] 3)).own (base := WB.heap.size) hbW (HOW.out.alloc (.cells #[.int .i64 y] 3)) hgrow2
                  have hb3 := (HBL.out.alloc hsz (.cells #[.int .i64 y] 3)).grown hgrow2 (by simp; omega) (fun j hj => (HOW.out.lt j hj).1)
                  have HQ3 := Lib.hid hq3; clear hq3
                  have HB3 := Lib.hid hb3; clear hb3
                  have HW3 := Lib.hid hown2; clear hown2 hgrow2 hcp
                  go_wp2_with fail
                  go_roundw
                  case rel => first | exact ⟨j + 1, by omega, by go_num, by rw [E.out]; simpa using HW3.out, HB3.out, HQ3.out⟩ | exact ⟨_, _, _, _, _, _, _, _, _, _, _, _, _, _, _, _, _, _, _, _, _, ⟨j + 1, by omega, by go_num, by rw [E.out]; simpa using HW3.out, HB3.out, HQ3.out⟩, rfl⟩
                  case measure => simp [intOf]; omega
                · have hy : (Q.getD j 0 != (o : Int)) = false := by simpa using hy
                  have E := Lib.hid (ft_eq o Q j hjl hy)
                  generalize Q.getD j 0 = y at *
                  go_wp2_with fail
                  go_roundw
                  case rel => exact ⟨j + 1, by omega, by go_num, by rw [E.out]; exact hown, hbel, hq2⟩
                  case measure => simp [intOf]; omega
              · obtain rfl : j = Q.length := by omega
                rw [ft_all] at hown hfl
                have hx := HX.out.below hbel
                have hy := IL.of_own hown
                rw [← HPQ.out] at hy hfl
                go_wp2_with fail
                refine (eq_any _ _ _ _ _ hx hy (by omega) (by omega)).mono ?_; rintro e w' ⟨rfl, nq, rfl⟩
                clear hx hy hown hbel
                have hq3 := hq2.drewN nq
                clear hq2
                go_wp2_with fail
                have HQ := Lib.hid hq3
                have HAL2 := Lib.hid (HAL.out.tick)
                clear hq3
                go_wp2_with fail
                go_loop [19] (fun i => ∃ j : Nat, j ≤ 8 ∧ i = .int .i64 j) (fun i => 8 - (intOf i).toNat)
                case atStart => exact ⟨0, by omega, rfl⟩
                case round =>
                  obtain ⟨j, hj, rfl⟩ := hrel
                  by_cases hj8 : j < 8
                  · by_cases hjo : j = o
                    · have hne : ((j : Int) != (o : Int)) = false := by simp [hjo]
                      have HJO := Lib.hid hjo; clear hjo
                      go_wp2_with fail
                      go_round
                      case rel => exact ⟨j + 1, by omega, by go_num⟩
                      case measure => simp [intOf]; omega
                    · have hne : ((j : Int) != (o : Int)) = true := by simp; omega
                      have E := Lib.hid (HAL2.out.left j hj8 hjo)
                      clear hjo
                      obtain ⟨lf, hlf⟩ : ∃ r, leftR 8 (tk f) j = r := ⟨_, rfl⟩
                      have HLF := Lib.hid hlf; clear hlf
                      go_wp2_with fail
                      refine (leftA j lf HLF.out HQ.out).mono ?_; rintro e w' ⟨rfl, rfl⟩
                      go_wp2_with fail
                      refine (leftB j lf (by rw [E.out, HLF.out]) HQ.out).mono ?_; rintro e w' ⟨rfl, rfl⟩
                      go_wp2_with fail
                      go_round
                      case rel => exact ⟨j + 1, by omega, by go_num⟩
                      case measure => simp [intOf]; omega
                  · go_wp2_with fail
                    go_roundw
                    case rel => exact ⟨x + 1, _, _, by omega, by go_num, HQ.out, HAL2.out⟩
                    case measure => simp [intOf]; omega

    · have hb := hq.1
      clear hq
      go_wp2_with fail
      go_ret
      exact ⟨rfl, hb⟩

set_option maxRecDepth 100000 in
theorem lifted (os : Os) (started : os.Started) (H : Type) (enc : TypeId × Value → H) :
    ReturnsInHanded {} Try.checked os 3 .any (Rows.alarmApartSpec.pre6 enc Try.prog Try.f3 Rows.alarmApartRow.domain false) (Rows.alarmApartSpec.post enc Try.prog Try.f3 false true false false) := by
  refine returnsInHanded_of_change (C := Try.checked) own started (by kernel_rfl) Try.func3
    (ChangeSpec.witness6 (enc := enc) (C := Try.checked) false ⟨#[], #[.slice none 0 0, .int .i64 0], []⟩ 8 (by kernel_rfl) (by kernel_rfl) (by kernel_rfl) (by kernel_rfl)) ?_
  intro W base args ds gs before hval0 hW hcnd _
  have hval : ∀ (j : Nat) t v, Try.f3.params[j]? = some t → args[j]? = some v → Value.okWide Try.prog W .any base t v := hval0
  have hW' := hW
  obtain ⟨p, q, hA0, hV, rfl, hfz, hnd⟩ := hW
  have hA : DataW.TrodAll enc Try.prog W 0 (fun _ => true) true Try.f3.params.toList args.toList ds p := hA0
  rw [Try.params3] at hA hval
  obtain ⟨v0, vs0, d0, ds0, p0, q0, hargs, rfl, rfl, h0, r0⟩ := trodAll_cons hA
  obtain ⟨v1, vs1, d1, ds1, p1, q1, rfl, rfl, rfl, h1, r1⟩ := trodAll_cons r0
  obtain ⟨rfl, rfl, rfl⟩ := trodAll_nil r1
  obtain rfl : args = #[v0, v1] := by cases args; simp_all
  obtain ⟨rfl, rfl⟩ := trodVars_none hV
  have k0 := h0
  have lt0 : ∀ x ∈ p0, x.block < W.heap.size := by obtain ⟨m, hm⟩ := k0; exact DataW.trod_lt m _ _ _ hm
  obtain ⟨s0, len0, cap0, rfl⟩ := okWide_slice Try.underlying22 (hval 0 22 v0 rfl rfl)
  obtain ⟨F0, F1, F2, hrd, hml, hwf⟩ := open_iii Try.underlying22 Try.underlying30 (by kernel_rfl) Try.underlying3 Try.underlying3 Try.underlying3 (by kernel_rfl) h0
  obtain ⟨a1, rfl, rfl, rfl, w1⟩ := open_int Try.underlying3 (hval 1 3 v1 rfl rfl) h1
  clear hA0 hval0
  refine (walk s0 len0 cap0 F0 F1 F2 a1 W (by unfold maxLen at hml; omega) (wf_bd w1) hrd (fun i hi => ⟨wf_bd (hwf i hi).1, wf_bd (hwf i hi).2.1, wf_bd (hwf i hi).2.2⟩)).mono fun e W' ⟨he, bel⟩ => ?_
  subst he
  exact ⟨_, rfl, _, _, _, [], _, [], hW', trodAll_mk1 (shut_bool Try.underlying4 _), (trodAll_cons_mk (Below.trod laidOut (by kernel_rfl) (of_decide_eq_true (by kernel_rfl)) k0 bel lt0) (trodAll_cons_mk (shut_int Try.underlying3 w1) trodAll_mk0)), rfl, bel.frame _, fun h => by cases h⟩

theorem over : Rows.alarmApartRow.holds Try.pinned (OpenSpec.ofChange Rows.alarmApartSpec) :=
  OpenClaim.holds_of_wide 3 Try.f3 rfl rfl rfl rfl rfl rfl rfl ⟨rfl, rfl, rfl, rfl, rfl⟩ rfl rfl rfl rfl rfl (by kernel_rfl) Try.func3 (by kernel_rfl)
    (of_decide_eq_true (by kernel_rfl)) (by unfold Func.isWrapper; first | (rw [if_pos (by decide +kernel)]; kernel_rfl) | (rw [if_neg (by decide +kernel)]; exact ⟨rfl, rfl⟩))
    (fun os started H enc _ => lifted os started H enc)

theorem proved : Rows.AlarmApartSaid := over
#print axioms proved
end Go.Proofs.Ytlhcefpdkoliaaa.alarmApart
