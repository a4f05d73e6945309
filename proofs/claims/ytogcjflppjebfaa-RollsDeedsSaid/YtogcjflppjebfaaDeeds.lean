/-
  hauberklaw24.RollsDeeds returns true for every l and groups, and its arguments read as before. No condition.
  The frame (lifted, over, proved) is a print of a program, after the way of the seat's proof-skeleton.
-/
import Derived.Test.YtogcjflppjebfaaWorks
import Derived.Test.YtogcjflppjebfaaRefL
import Derived.Test.YtogcjflppjebfaaSeq
import Derived.Deep.RegionWith
import Derived.Deep.DrawnRows
namespace Go.Proofs.Ytogcjflppjebfaa.rollsDeeds
open Go.ChangeShapes Go.WideShapes Go.ChangeAt Go.RowKit Go.Deep
set_option linter.unusedVariables false

/-- The program's two rolls (blocks ga and go) and the reference's (gb): ga has the groups fa, gb the groups fb; what lay below ahead of them is as it was. -/
def ST (w0 : World) (ga gb go : Nat) (fa fb : Nat → Bool) (w : World) : Prop :=
  Below w0.heap.size w0 w ∧ w0.heap.size ≤ ga ∧ w0.heap.size ≤ go ∧ ga ≠ go ∧ Blk w ga 42 (rollCells true fa) ∧ (∃ fo, Blk w go 42 (rollCells true fo)) ∧ ∃ xs, RefL w0.heap.size gb xs w ∧ Same fb xs
/-- .. and the deed's copy in block q. -/
def SD (w0 : World) (ga gb go q : Nat) (j : Int) (lv : Bool) (fa fb : Nat → Bool) (w : World) : Prop := ST w0 ga gb go fa fb w ∧ w0.heap.size ≤ q ∧ Blk w q 28 #[.int .i64 j, .bool lv]

section
variable {w0 w : World} {ga gb go q : Nat} {j : Int} {lv : Bool} {fa fb : Nat → Bool}
theorem ST.lt (h : ST w0 ga gb go fa fb w) : w0.heap.size ≤ w.heap.size := h.1.size
theorem refL_drewN {base g : Nat} {xs : List Int} (h : RefL base g xs w) (n : Nat) : RefL base g xs (w.drewN n) := h
theorem ST.drewN (h : ST w0 ga gb go fa fb w) (n : Nat) : ST w0 ga gb go fa fb (w.drewN n) := ⟨below_draws h.1 n, h.2.1, h.2.2.1, h.2.2.2.1, h.2.2.2.2.1, h.2.2.2.2.2.1, h.2.2.2.2.2.2⟩
theorem ST.drew (h : ST w0 ga gb go fa fb w) : ST w0 ga gb go fa fb w.drew := h.drewN 1
theorem SD.drew (h : SD w0 ga gb go q j lv fa fb w) : SD w0 ga gb go q j lv fa fb w.drew := ⟨h.1.drew, h.2⟩
theorem SD.drewN (h : SD w0 ga gb go q j lv fa fb w) (n : Nat) : SD w0 ga gb go q j lv fa fb (w.drewN n) := ⟨h.1.drewN n, h.2⟩
theorem SD.d0 (h : SD w0 ga gb go q j lv fa fb w) : w.cell? ⟨q, 0, none⟩ = some (.int .i64 j) := h.2.2.cell 0
theorem SD.d1 (h : SD w0 ga gb go q j lv fa fb w) : w.cell? ⟨q, 1, none⟩ = some (.bool lv) := h.2.2.cell 1
theorem SD.cells (h : SD w0 ga gb go q j lv fa fb w) : w.cell? ⟨q, 0, none⟩ = some (.int .i64 j) ∧ w.cell? ⟨q, 1, none⟩ = some (.bool lv) := ⟨h.d0, h.d1⟩
theorem refL_grown {base g : Nat} {xs : List Int} {w' : World} {b t : Nat} {cs : Array Value} (h : RefL base g xs w) (ho : w.grownBy w' (some b)) (hb : Blk w b t cs) (h44 : 44 ≠ t) (h3 : 3 ≠ t) : RefL base g xs w' := by
  obtain ⟨h1, v, h2, h4⟩ := h
  exact ⟨h1, v, h2.grown ho (fun e => h2.ne_ hb h44 (by injection e)), h4.kept ho (.inr (own_blk_ne h4 hb h3))⟩
theorem refL_alloc {base g : Nat} {xs : List Int} (h : RefL base g xs w) (o : Obj) : RefL base g xs (w.alloc o) := by
  obtain ⟨h1, v, h2, h4⟩ := h
  exact ⟨h1, v, h2.alloc o, h4.alloc o⟩
theorem ST.alloc (h : ST w0 ga gb go fa fb w) (o : Obj) : ST w0 ga gb go fa fb (w.alloc o) := by
  obtain ⟨h1, h2, h3, h4, h5, ⟨fo, h6⟩, xs, h7, h8⟩ := h
  exact ⟨h1.alloc h1.size o, h2, h3, h4, h5.alloc o, ⟨fo, h6.alloc o⟩, xs, refL_alloc h7 o, h8⟩
theorem ST.deed (h : ST w0 ga gb go fa fb w) (j : Int) (lv : Bool) : SD w0 ga gb go w.heap.size j lv fa fb (w.alloc (.cells #[.int .i64 j, .bool lv] 28)) := ⟨h.alloc _, h.1.size, Blk.new _ _ _⟩

/-- What changes block ga alone leaves all else. -/
theorem SD.turned {w' : World} {f' : Nat → Bool} (h : SD w0 ga gb go q j lv fa fb w) (hb : Blk w' ga 42 (rollCells true f')) (ho : w.grownBy w' (some ga)) : SD w0 ga gb go q j lv f' fb w' := by
  obtain ⟨⟨h1, h2, h3, h4, h5, ⟨fo, h6⟩, xs, h7, h8⟩, h9, h10⟩ := h
  exact ⟨⟨below_only h1 ho h2 (Nat.le_refl _), h2, h3, h4, hb, ⟨fo, h6.grown ho (fun e => h4 (by injection e with e; exact e.symm))⟩, xs, refL_grown h7 ho h5 (by decide) (by decide), h8⟩, h9, h10.grown ho (fun e => h10.ne_ h5 (by decide) (by injection e))⟩
theorem SD.other {w' : World} {f' : Nat → Bool} (h : SD w0 ga gb go q j lv fa fb w) (hb : Blk w' go 42 (rollCells true f')) (ho : w.grownBy w' (some go)) : SD w0 ga gb go q j lv fa fb w' := by
  obtain ⟨⟨h1, h2, h3, h4, h5, ⟨fo, h6⟩, xs, h7, h8⟩, h9, h10⟩ := h
  exact ⟨⟨below_only h1 ho h3 (Nat.le_refl _), h2, h3, h4, h5.grown ho (fun e => h4 (by injection e)), ⟨f', hb⟩, xs, refL_grown h7 ho h6 (by decide) (by decide), h8⟩, h9, h10.grown ho (fun e => h10.ne_ h6 (by decide) (by injection e))⟩
theorem SD.ref {w' : World} {f' : Nat → Bool} (h : SD w0 ga gb go q j lv fa fb w) (hr : RefDone w0.heap.size gb f' w w') : SD w0 ga gb go q j lv fa f' w' := by
  obtain ⟨⟨h1, h2, h3, h4, h5, ⟨fo, h6⟩, xs, h7, h8⟩, h9, h10⟩ := h
  obtain ⟨⟨xs', h7', h8'⟩, hbel, hk⟩ := hr
  exact ⟨⟨h1.trans hbel, h2, h3, h4, hk _ _ _ (by decide) (by decide) h5, ⟨fo, hk _ _ _ (by decide) (by decide) h6⟩, xs', h7', h8'⟩, h9, hk _ _ _ (by decide) (by decide) h10⟩

theorem leave_s (h : SD w0 ga gb go q j lv fa fb w) : Calls Try.prog 10 #[.pointer (some ⟨ga, 0, none⟩), .int .i64 j] w fun e w' => e = .returned (.int .i64 (turnR fa j false)) ∧ SD w0 ga gb go q j lv (turnS fa j false) fb w' :=
  (leave_any ga fa j w h.1.2.2.2.2.1).mono fun e w' ⟨he, hb, ho, _⟩ => ⟨he, h.turned hb ho⟩
theorem enter_s (h : SD w0 ga gb go q j lv fa fb w) : Calls Try.prog 9 #[.pointer (some ⟨ga, 0, none⟩), .int .i64 j] w fun e w' => e = .returned (.int .i64 (turnR fa j true)) ∧ SD w0 ga gb go q j lv (turnS fa j true) fb w' :=
  (enter_any ga fa j w h.1.2.2.2.2.1).mono fun e w' ⟨he, hb, ho, _⟩ => ⟨he, h.turned hb ho⟩
theorem rleave_s (h : SD w0 ga gb go q j lv fa fb w) : Calls Try.prog 11 #[.pointer (some ⟨gb, 0, none⟩), .int .i64 j] w fun e w' => e = .returned (.int .i64 (turnR fb j false)) ∧ SD w0 ga gb go q j lv fa (turnS fb j false) w' := by
  obtain ⟨xs, h7, h8⟩ := h.1.2.2.2.2.2.2
  exact (ref_leave _ gb fb xs j w h7 h8 h.1.1.size).mono fun e w' ⟨he, hr⟩ => ⟨he, h.ref hr⟩
theorem renter_s (h : SD w0 ga gb go q j lv fa fb w) : Calls Try.prog 12 #[.pointer (some ⟨gb, 0, none⟩), .int .i64 j] w fun e w' => e = .returned (.int .i64 (turnR fb j true)) ∧ SD w0 ga gb go q j lv fa (turnS fb j true) w' := by
  obtain ⟨xs, h7, h8⟩ := h.1.2.2.2.2.2.2
  exact (ref_enter _ gb fb xs j w h7 h8 h.1.1.size).mono fun e w' ⟨he, hr⟩ => ⟨he, h.ref hr⟩
theorem oenter_s (m : Int) (h : SD w0 ga gb go q j lv fa fb w) : Calls Try.prog 9 #[.pointer (some ⟨go, 0, none⟩), .int .i64 m] w fun e w' => ∃ r : Int, e = .returned (.int .i64 r) ∧ SD w0 ga gb go q j lv fa fb w' := by
  obtain ⟨fo, h6⟩ := h.1.2.2.2.2.2.1
  exact (enter_any go fo m w h6).mono fun e w' ⟨he, hb, ho, _⟩ => ⟨_, he, h.other hb ho⟩
theorem groups_s (h : ST w0 ga gb go fa fb w) : Calls Try.prog 13 #[.pointer (some ⟨ga, 0, none⟩)] w fun e w' => e = .returned (.int .i64 (gsum fa 8)) ∧ w = w' := groups_any ga true fa w h.2.2.2.2.1
theorem wants_s (m : Int) (h : ST w0 ga gb go fa fb w) : Calls Try.prog 15 #[.pointer (some ⟨ga, 0, none⟩), .int .i64 m] w fun e w' => e = .returned (.bool (wantsB (gsum fa 8) m)) ∧ w = w' := wants_any ga true fa m w h.2.2.2.2.1
theorem rgroups_s (h : ST w0 ga gb go fa fb w) : Calls Try.prog 14 #[.pointer (some ⟨gb, 0, none⟩)] w fun e w' => e = .returned (.int .i64 (gsum fb 8)) ∧ w = w' := by
  obtain ⟨xs, h7, h8⟩ := h.2.2.2.2.2.2
  exact ref_groups _ gb fb xs w h7 h8
theorem rwants_s (m : Int) (h : ST w0 ga gb go fa fb w) : Calls Try.prog 16 #[.pointer (some ⟨gb, 0, none⟩), .int .i64 m] w fun e w' => e = .returned (.bool (wantsB (gsum fb 8) m)) ∧ w = w' := by
  obtain ⟨xs, h7, h8⟩ := h.2.2.2.2.2.2
  exact ref_wants _ gb fb xs m w h7 h8
end

set_option maxRecDepth 100000 in
set_option maxHeartbeats 4000000 in
theorem walk (A : Option Addr) (len cap : Nat) (F0 : Nat → Int) (F1 : Nat → Bool) (gs : Int) (w : World) (hl : len ≤ 9223372036854775807)
    (hA : Rd w 2 A len (fun i => [.int .i64 (F0 i), .bool (F1 i)])) (hb : ∀ i, i < len → (-9223372036854775808 ≤ F0 i ∧ F0 i ≤ 9223372036854775807)) :
    Calls Try.prog 3 #[.slice A len cap, .int .i64 gs] w fun e w' => e = .returned (.bool true) ∧ Below w.heap.size w w' := by
  have HA := Lib.hid hA; clear hA
  have HB := Lib.hid hb; clear hb
  go_enter Try.func3, Try.ntmps3
  go_wp2_with fail
  refine (new_any _).mono ?_; rintro e w1 ⟨rfl, hw1⟩
  have s1 : w1.heap.size = w.heap.size + 1 := by rw [hw1]; simp
  have b1 : Blk w1 w.heap.size 42 (rollCells true fun _ => false) := by rw [hw1]; exact Blk.new _ _ _
  have l1 : Below w.heap.size w w1 := by rw [hw1]; exact (Below.refl _ _).alloc (Nat.le_refl _) _
  clear hw1
  have B1 := Lib.hid b1; clear b1
  have S1 := Lib.hid s1; clear s1
  have L1 := Lib.hid l1; clear l1
  go_wp2_with fail
  refine (ref_new _).mono ?_; rintro e w2 ⟨rfl, hw2⟩
  have s2 : w2.heap.size = w1.heap.size + 1 := by rw [hw2]; simp
  have b2 : Blk w2 w.heap.size 42 (rollCells true fun _ => false) := by rw [hw2]; exact B1.out.alloc _
  have r2 : RefL w.heap.size w1.heap.size [] w2 := by
    rw [hw2]
    exact ⟨L1.out.size, _, Blk.new _ _ _, World.ownsRow_nil _ _ _ _⟩
  have l2 : Below w.heap.size w w2 := by rw [hw2]; exact L1.out.alloc L1.out.size _
  clear hw2
  have B2 := Lib.hid b2; clear b2
  have S2 := Lib.hid s2; clear s2
  have L2 := Lib.hid l2; clear l2
  have R2 := Lib.hid r2; clear r2
  go_wp2_with fail
  refine (new_any _).mono ?_; rintro e w3 ⟨rfl, hw3⟩
  have hq : ST w w.heap.size w1.heap.size w2.heap.size (fun _ => false) (fun _ => false) w3 := by
    rw [hw3]
    exact ⟨L2.out.alloc L2.out.size _, Nat.le_refl _, L2.out.size, by have := S1.out; have := S2.out; omega, B2.out.alloc _, ⟨_, Blk.new _ _ _⟩, [], refL_alloc R2.out _, Same.nil⟩
  clear hw3 B1 B2 S1 S2 L1 L2 R2
  have Q0 := Lib.hid hq; clear hq
  go_wp2_with fail
  go_loopw [8] (fun i wr => ∃ (k : Nat) (f : Nat → Bool), k ≤ len ∧ i = .int .i64 k ∧ ST w w.heap.size w1.heap.size w2.heap.size f f wr) (fun i _ => len - (intOf i).toNat)
  case atStart => exact ⟨0, fun _ => false, by omega, rfl, Q0.out⟩
  case round =>
    clear Q0
    obtain ⟨k, f, hk, rfl, hq⟩ := hrel
    generalize w1.heap.size = gb at hq ⊢
    generalize w2.heap.size = go at hq ⊢
    obtain ⟨ga, hga⟩ : ∃ ga, ga = w.heap.size := ⟨_, rfl⟩
    by_cases hlt : k < len
    · obtain ⟨b0, off, rfl, hbl, hc⟩ := HA.out k hlt
      have hc0 : wr.cell? ⟨b0, off + k * 2, none⟩ = some (.int .i64 (F0 k)) := (hq.1.cell (p := ⟨b0, off + k * 2, none⟩) hbl).trans (hc 0 _ rfl)
      have hc1 : wr.cell? ⟨b0, off + k * 2 + 1, none⟩ = some (.bool (F1 k)) := (hq.1.cell (p := ⟨b0, off + k * 2 + 1, none⟩) hbl).trans (hc 1 _ rfl)
      clear hc HA
      obtain ⟨u1, u2⟩ := HB.out k hlt
      generalize F0 k = j at *
      have hd := Lib.hid (hq.deed j (F1 k))
      clear hq
      go_wp2_with fail
      refine (oenter_s _ hd.out).mono ?_; rintro e w' ⟨r0, rfl, hs⟩
      clear hd hc0 hc1
      generalize wr.heap.size = q at hs ⊢
      go_wp2_with fail
      rcases hlv : F1 k with _ | _
      · rw [hlv] at hs
        clear hlv
        have d0 := hs.d0
        have d1 := hs.d1
        refine region_seq [(0, true), (1, true), (2, true), (3, true), (4, true), (5, true), (6, true), (7, true), (8, true), (9, true), (10, true), (11, true), (12, true), (13, true), (14, true), (15, true), (16, true), (17, true), (18, true), (19, true), (20, true), (22, true), (23, true), (24, true), (21, false), (25, false), (26, true), (27, true), (28, true), (29, true), (30, true), (32, true), (31, false), (33, false), (34, true), (35, true), (36, true), (37, true), (38, true), (40, true), (41, true), (39, false), (42, false), (43, true), (44, true), (45, true), (46, true), (47, true), (48, true), (50, true), (51, true), (52, true), (49, false), (53, false), (54, true), (55, true)] (fun w1 => w1.cell? ⟨q, 0, none⟩ = some (.int .i64 j) ∧ w1.cell? ⟨q, 1, none⟩ = some (.bool false)) (by kernel_rfl) (by kernel_rfl) (Nat.le_of_eq (by kernel_rfl)) (by kernel_rfl) (fun _ _ _ _ _ h => h) ?_
        have hs0 := hs.drew
        have hS0 := hs0.cells
        clear hs d0 d1
        generalize w'.drew = W0 at *
        refine seq_take (by rfl) (by rfl) hS0 (v := ?_) ?_ ?_
        rotate_left
        · intro w1 hSw; (try dsimp only at hSw); simp only [List.getElem_toArray, List.getElem_cons_zero]; (try go_simp); try with_reducible rfl
        simp only [Act.put, List.getElem_toArray, List.getElem_cons_zero, List.setIfInBounds_toArray, List.set_cons_zero, List.set_cons_succ]
        refine seq_take (by rfl) (by rfl) hS0 (v := ?_) ?_ ?_
        rotate_left
        · intro w1 hSw; (try dsimp only at hSw); simp only [List.getElem_toArray, List.getElem_cons_zero, List.getElem_cons_succ]; (try go_simp); try with_reducible rfl
        simp only [Act.put, List.getElem_toArray, List.getElem_cons_zero, List.getElem_cons_succ, List.setIfInBounds_toArray, List.set_cons_zero, List.set_cons_succ]
        refine seq_take (by rfl) (by rfl) hS0 (v := ?_) ?_ ?_
        rotate_left
        · intro w1 hSw; (try dsimp only at hSw); simp only [List.getElem_toArray, List.getElem_cons_zero, List.getElem_cons_succ]; (try go_simp); try with_reducible rfl
        simp only [Act.put, List.getElem_toArray, List.getElem_cons_zero, List.getElem_cons_succ, List.setIfInBounds_toArray, List.set_cons_zero, List.set_cons_succ]
        refine seq_skip (by rfl) (by rfl) hS0 ?_
        simp only [Act.put, List.getElem_toArray, List.getElem_cons_zero, List.getElem_cons_succ, List.setIfInBounds_toArray, List.set_cons_zero, List.set_cons_succ]
        refine seq_skip (by rfl) (by rfl) hS0 ?_
        simp only [Act.put, List.getElem_toArray, List.getElem_cons_zero, List.getElem_cons_succ, List.setIfInBounds_toArray, List.set_cons_zero, List.set_cons_succ]
        refine seq_skip (by rfl) (by rfl) hS0 ?_
        simp only [Act.put, List.getElem_toArray, List.getElem_cons_zero, List.getElem_cons_succ, List.setIfInBounds_toArray, List.set_cons_zero, List.set_cons_succ]
        refine seq_skip (by rfl) (by rfl) hS0 ?_
        simp only [Act.put, List.getElem_toArray, List.getElem_cons_zero, List.getElem_cons_succ, List.setIfInBounds_toArray, List.set_cons_zero, List.set_cons_succ]
        refine seq_skip (by rfl) (by rfl) hS0 ?_
        simp only [Act.put, List.getElem_toArray, List.getElem_cons_zero, List.getElem_cons_succ, List.setIfInBounds_toArray, List.set_cons_zero, List.set_cons_succ]
        refine seq_skip (by rfl) (by rfl) hS0 ?_
        simp only [Act.put, List.getElem_toArray, List.getElem_cons_zero, List.getElem_cons_succ, List.setIfInBounds_toArray, List.set_cons_zero, List.set_cons_succ]
        refine seq_skip (by rfl) (by rfl) hS0 ?_
        simp only [Act.put, List.getElem_toArray, List.getElem_cons_zero, List.getElem_cons_succ, List.setIfInBounds_toArray, List.set_cons_zero, List.set_cons_succ]
        refine seq_skip (by rfl) (by rfl) hS0 ?_
        simp only [Act.put, List.getElem_toArray, List.getElem_cons_zero, List.getElem_cons_succ, List.setIfInBounds_toArray, List.set_cons_zero, List.set_cons_succ]
        refine seq_skip (by rfl) (by rfl) hS0 ?_
        simp only [Act.put, List.getElem_toArray, List.getElem_cons_zero, List.getElem_cons_succ, List.setIfInBounds_toArray, List.set_cons_zero, List.set_cons_succ]
        refine seq_take (by rfl) (by rfl) hS0 (v := ?_) ?_ ?_
        rotate_left
        · intro w1 hSw; (try dsimp only at hSw); simp only [List.getElem_toArray, List.getElem_cons_zero, List.getElem_cons_succ]; (try go_simp); try with_reducible rfl
        simp only [Act.put, List.getElem_toArray, List.getElem_cons_zero, List.getElem_cons_succ, List.setIfInBounds_toArray, List.set_cons_zero, List.set_cons_succ]
        refine seq_take (by rfl) (by rfl) hS0 (v := ?_) ?_ ?_
        rotate_left
        · intro w1 hSw; (try dsimp only at hSw); simp only [List.getElem_toArray, List.getElem_cons_zero, List.getElem_cons_succ]; (try go_simp); try with_reducible rfl
        simp only [Act.put, List.getElem_toArray, List.getElem_cons_zero, List.getElem_cons_succ, List.setIfInBounds_toArray, List.set_cons_zero, List.set_cons_succ]
        refine seq_take (by rfl) (by rfl) hS0 (v := ?_) ?_ ?_
        rotate_left
        · intro w1 hSw; (try dsimp only at hSw); simp only [List.getElem_toArray, List.getElem_cons_zero, List.getElem_cons_succ]; (try go_simp); try with_reducible rfl
        simp only [Act.put, List.getElem_toArray, List.getElem_cons_zero, List.getElem_cons_succ, List.setIfInBounds_toArray, List.set_cons_zero, List.set_cons_succ]
        refine seq_take (by rfl) (by rfl) hS0 (v := ?_) ?_ ?_
        rotate_left
        · intro w1 hSw; (try dsimp only at hSw); simp only [List.getElem_toArray, List.getElem_cons_zero, List.getElem_cons_succ]; (try go_simp); try with_reducible rfl
        simp only [Act.put, List.getElem_toArray, List.getElem_cons_zero, List.getElem_cons_succ, List.setIfInBounds_toArray, List.set_cons_zero, List.set_cons_succ]
        refine seq_take (by rfl) (by rfl) hS0 (v := ?_) ?_ ?_
        rotate_left
        · intro w1 hSw; (try dsimp only at hSw); simp only [List.getElem_toArray, List.getElem_cons_zero, List.getElem_cons_succ]; (try go_simp); try with_reducible rfl
        simp only [Act.put, List.getElem_toArray, List.getElem_cons_zero, List.getElem_cons_succ, List.setIfInBounds_toArray, List.set_cons_zero, List.set_cons_succ]
        refine seq_take (by rfl) (by rfl) hS0 (v := ?_) ?_ ?_
        rotate_left
        · intro w1 hSw; (try dsimp only at hSw); simp only [List.getElem_toArray, List.getElem_cons_zero, List.getElem_cons_succ]; (try go_simp); try with_reducible rfl
        simp only [Act.put, List.getElem_toArray, List.getElem_cons_zero, List.getElem_cons_succ, List.setIfInBounds_toArray, List.set_cons_zero, List.set_cons_succ]
        refine seq_take (by rfl) (by rfl) hS0 (v := ?_) ?_ ?_
        rotate_left
        · intro w1 hSw; (try dsimp only at hSw); simp only [List.getElem_toArray, List.getElem_cons_zero, List.getElem_cons_succ]; (try go_simp); try with_reducible rfl
        simp only [Act.put, List.getElem_toArray, List.getElem_cons_zero, List.getElem_cons_succ, List.setIfInBounds_toArray, List.set_cons_zero, List.set_cons_succ]
        refine seq_take (by rfl) (by rfl) hS0 (v := ?_) ?_ ?_
        rotate_left
        · intro w1 hSw; (try dsimp only at hSw); simp only [List.getElem_toArray, List.getElem_cons_zero, List.getElem_cons_succ]; (try go_simp); try with_reducible rfl
        simp only [Act.put, List.getElem_toArray, List.getElem_cons_zero, List.getElem_cons_succ, List.setIfInBounds_toArray, List.set_cons_zero, List.set_cons_succ]
        refine seq_take (by rfl) (by rfl) hS0 (v := ?_) ?_ ?_
        rotate_left
        · intro w1 hSw; (try dsimp only at hSw); simp only [List.getElem_toArray, List.getElem_cons_zero, List.getElem_cons_succ]; (try go_simp); try with_reducible rfl
        simp only [Act.put, List.getElem_toArray, List.getElem_cons_zero, List.getElem_cons_succ, List.setIfInBounds_toArray, List.set_cons_zero, List.set_cons_succ]
        refine seq_take (by rfl) (by rfl) hS0 (v := ?_) ?_ ?_
        rotate_left
        · intro w1 hSw; (try dsimp only at hSw); simp only [List.getElem_toArray, List.getElem_cons_zero, List.getElem_cons_succ]; (try go_simp); try with_reducible rfl
        simp only [Act.put, List.getElem_toArray, List.getElem_cons_zero, List.getElem_cons_succ, List.setIfInBounds_toArray, List.set_cons_zero, List.set_cons_succ]
        refine seq_take (by rfl) (by rfl) hS0 (v := ?_) ?_ ?_
        rotate_left
        · intro w1 hSw; (try dsimp only at hSw); simp only [List.getElem_toArray, List.getElem_cons_zero, List.getElem_cons_succ]; (try go_simp); try with_reducible rfl
        simp only [Act.put, List.getElem_toArray, List.getElem_cons_zero, List.getElem_cons_succ, List.setIfInBounds_toArray, List.set_cons_zero, List.set_cons_succ]
        refine seq_take (by rfl) (by rfl) hS0 (v := ?_) ?_ ?_
        rotate_left
        · intro w1 hSw; (try dsimp only at hSw); simp only [List.getElem_toArray, List.getElem_cons_zero, List.getElem_cons_succ]; (try go_simp); try with_reducible rfl
        simp only [Act.put, List.getElem_toArray, List.getElem_cons_zero, List.getElem_cons_succ, List.setIfInBounds_toArray, List.set_cons_zero, List.set_cons_succ]
        refine seq_call (by rfl) (by rfl) ?_
        intro K hK
        simp only [List.getElem_toArray, List.getElem_cons_zero, List.getElem_cons_succ]
        go_simp
        refine (enter_s hs0).mono ?_; rintro e w1 ⟨rfl, hs1⟩
        refine hK _ _ hs1.cells ?_
        have hS0 := hs1.cells
        clear hK K hs0
        refine seq_call (by rfl) (by rfl) ?_
        intro K hK
        simp only [List.getElem_toArray, List.getElem_cons_zero, List.getElem_cons_succ]
        go_simp
        refine (renter_s hs1).mono ?_; rintro e w1 ⟨rfl, hs2⟩
        refine hK _ _ hs2.cells ?_
        have hS0 := hs2.cells
        clear hK K hs1
        refine seq_take (by rfl) (by rfl) hS0 (v := ?_) ?_ ?_
        rotate_left
        · intro w1 hSw; (try dsimp only at hSw); simp only [List.getElem_toArray, List.getElem_cons_zero, List.getElem_cons_succ]; (try go_simp); try with_reducible rfl
        simp only [Act.put, List.getElem_toArray, List.getElem_cons_zero, List.getElem_cons_succ, List.setIfInBounds_toArray, List.set_cons_zero, List.set_cons_succ]
        refine seq_take (by rfl) (by rfl) hS0 (v := ?_) ?_ ?_
        rotate_left
        · intro w1 hSw; (try dsimp only at hSw); simp only [List.getElem_toArray, List.getElem_cons_zero, List.getElem_cons_succ]; (try go_simp); try with_reducible rfl
        simp only [Act.put, List.getElem_toArray, List.getElem_cons_zero, List.getElem_cons_succ, List.setIfInBounds_toArray, List.set_cons_zero, List.set_cons_succ]
        refine seq_take (by rfl) (by rfl) hS0 (v := ?_) ?_ ?_
        rotate_left
        · intro w1 hSw; (try dsimp only at hSw); simp only [List.getElem_toArray, List.getElem_cons_zero, List.getElem_cons_succ]; (try go_simp); try with_reducible rfl
        simp only [Act.put, List.getElem_toArray, List.getElem_cons_zero, List.getElem_cons_succ, List.setIfInBounds_toArray, List.set_cons_zero, List.set_cons_succ]
        refine seq_take (by rfl) (by rfl) hS0 (v := ?_) ?_ ?_
        rotate_left
        · intro w1 hSw; (try dsimp only at hSw); simp only [List.getElem_toArray, List.getElem_cons_zero, List.getElem_cons_succ]; (try go_simp); try with_reducible rfl
        simp only [Act.put, List.getElem_toArray, List.getElem_cons_zero, List.getElem_cons_succ, List.setIfInBounds_toArray, List.set_cons_zero, List.set_cons_succ]
        refine seq_take (by rfl) (by rfl) hS0 (v := ?_) ?_ ?_
        rotate_left
        · intro w1 hSw; (try dsimp only at hSw); simp only [List.getElem_toArray, List.getElem_cons_zero, List.getElem_cons_succ]; (try go_simp); try with_reducible rfl
        simp only [Act.put, List.getElem_toArray, List.getElem_cons_zero, List.getElem_cons_succ, List.setIfInBounds_toArray, List.set_cons_zero, List.set_cons_succ]
        refine seq_take (by rfl) (by rfl) hS0 (v := ?_) ?_ ?_
        rotate_left
        · intro w1 hSw; (try dsimp only at hSw); simp only [List.getElem_toArray, List.getElem_cons_zero, List.getElem_cons_succ]; (try go_simp); try with_reducible rfl
        simp only [Act.put, List.getElem_toArray, List.getElem_cons_zero, List.getElem_cons_succ, List.setIfInBounds_toArray, List.set_cons_zero, List.set_cons_succ]
        refine seq_call (by rfl) (by rfl) ?_
        intro K hK
        simp only [List.getElem_toArray, List.getElem_cons_zero, List.getElem_cons_succ]
        go_simp
        refine (groups_s hs2.1).mono ?_; rintro e w1 ⟨rfl, rfl⟩
        refine hK _ _ hS0 ?_
        clear hK K
        refine seq_call (by rfl) (by rfl) ?_
        intro K hK
        simp only [List.getElem_toArray, List.getElem_cons_zero, List.getElem_cons_succ]
        go_simp
        refine (rgroups_s hs2.1).mono ?_; rintro e w1 ⟨rfl, rfl⟩
        refine hK _ _ hS0 ?_
        clear hK K
        refine seq_take (by rfl) (by rfl) hS0 (v := ?_) ?_ ?_
        rotate_left
        · intro w1 hSw; (try dsimp only at hSw); simp only [List.getElem_toArray, List.getElem_cons_zero, List.getElem_cons_succ]; (try go_simp); try with_reducible rfl
        simp only [Act.put, List.getElem_toArray, List.getElem_cons_zero, List.getElem_cons_succ, List.setIfInBounds_toArray, List.set_cons_zero, List.set_cons_succ]
        refine seq_take (by rfl) (by rfl) hS0 (v := ?_) ?_ ?_
        rotate_left
        · intro w1 hSw; (try dsimp only at hSw); simp only [List.getElem_toArray, List.getElem_cons_zero, List.getElem_cons_succ]; (try go_simp); try with_reducible rfl
        simp only [Act.put, List.getElem_toArray, List.getElem_cons_zero, List.getElem_cons_succ, List.setIfInBounds_toArray, List.set_cons_zero, List.set_cons_succ]
        refine seq_take (by rfl) (by rfl) hS0 (v := ?_) ?_ ?_
        rotate_left
        · intro w1 hSw; (try dsimp only at hSw); simp only [List.getElem_toArray, List.getElem_cons_zero, List.getElem_cons_succ]; (try go_simp); try with_reducible rfl
        simp only [Act.put, List.getElem_toArray, List.getElem_cons_zero, List.getElem_cons_succ, List.setIfInBounds_toArray, List.set_cons_zero, List.set_cons_succ]
        refine seq_take (by rfl) (by rfl) hS0 (v := ?_) ?_ ?_
        rotate_left
        · intro w1 hSw; (try dsimp only at hSw); simp only [List.getElem_toArray, List.getElem_cons_zero, List.getElem_cons_succ]; (try go_simp); try with_reducible rfl
        simp only [Act.put, List.getElem_toArray, List.getElem_cons_zero, List.getElem_cons_succ, List.setIfInBounds_toArray, List.set_cons_zero, List.set_cons_succ]
        refine seq_take (by rfl) (by rfl) hS0 (v := ?_) ?_ ?_
        rotate_left
        · intro w1 hSw; (try dsimp only at hSw); simp only [List.getElem_toArray, List.getElem_cons_zero, List.getElem_cons_succ]; (try go_simp); try with_reducible rfl
        simp only [Act.put, List.getElem_toArray, List.getElem_cons_zero, List.getElem_cons_succ, List.setIfInBounds_toArray, List.set_cons_zero, List.set_cons_succ]
        refine seq_take (by rfl) (by rfl) hS0 (v := ?_) ?_ ?_
        rotate_left
        · intro w1 hSw; (try dsimp only at hSw); simp only [List.getElem_toArray, List.getElem_cons_zero, List.getElem_cons_succ]; (try go_simp); try with_reducible rfl
        simp only [Act.put, List.getElem_toArray, List.getElem_cons_zero, List.getElem_cons_succ, List.setIfInBounds_toArray, List.set_cons_zero, List.set_cons_succ]
        refine seq_take (by rfl) (by rfl) hS0 (v := ?_) ?_ ?_
        rotate_left
        · intro w1 hSw; (try dsimp only at hSw); simp only [List.getElem_toArray, List.getElem_cons_zero, List.getElem_cons_succ]; (try go_simp); try with_reducible rfl
        simp only [Act.put, List.getElem_toArray, List.getElem_cons_zero, List.getElem_cons_succ, List.setIfInBounds_toArray, List.set_cons_zero, List.set_cons_succ]
        refine seq_call (by rfl) (by rfl) ?_
        intro K hK
        simp only [List.getElem_toArray, List.getElem_cons_zero, List.getElem_cons_succ]
        go_simp
        refine (wants_s _ hs2.1).mono ?_; rintro e w1 ⟨rfl, rfl⟩
        refine hK _ _ hS0 ?_
        clear hK K
        refine seq_call (by rfl) (by rfl) ?_
        intro K hK
        simp only [List.getElem_toArray, List.getElem_cons_zero, List.getElem_cons_succ]
        go_simp
        refine (rwants_s _ hs2.1).mono ?_; rintro e w1 ⟨rfl, rfl⟩
        refine hK _ _ hS0 ?_
        clear hK K
        refine seq_take (by rfl) (by rfl) hS0 (v := ?_) ?_ ?_
        rotate_left
        · intro w1 hSw; (try dsimp only at hSw); simp only [List.getElem_toArray, List.getElem_cons_zero, List.getElem_cons_succ]; (try go_simp); try with_reducible rfl
        simp only [Act.put, List.getElem_toArray, List.getElem_cons_zero, List.getElem_cons_succ, List.setIfInBounds_toArray, List.set_cons_zero, List.set_cons_succ]
        refine seq_take (by rfl) (by rfl) hS0 (v := ?_) ?_ ?_
        rotate_left
        · intro w1 hSw; (try dsimp only at hSw); simp only [List.getElem_toArray, List.getElem_cons_zero, List.getElem_cons_succ]; (try go_simp); try with_reducible rfl
        simp only [Act.put, List.getElem_toArray, List.getElem_cons_zero, List.getElem_cons_succ, List.setIfInBounds_toArray, List.set_cons_zero, List.set_cons_succ]
        refine seq_take (by rfl) (by rfl) hS0 (v := ?_) ?_ ?_
        rotate_left
        · intro w1 hSw; (try dsimp only at hSw); simp only [List.getElem_toArray, List.getElem_cons_zero, List.getElem_cons_succ]; (try go_simp); try with_reducible rfl
        simp only [Act.put, List.getElem_toArray, List.getElem_cons_zero, List.getElem_cons_succ, List.setIfInBounds_toArray, List.set_cons_zero, List.set_cons_succ]
        refine seq_take (by rfl) (by rfl) hS0 (v := ?_) ?_ ?_
        rotate_left
        · intro w1 hSw; (try dsimp only at hSw); simp only [List.getElem_toArray, List.getElem_cons_zero, List.getElem_cons_succ]; (try go_simp); try with_reducible rfl
        simp only [Act.put, List.getElem_toArray, List.getElem_cons_zero, List.getElem_cons_succ, List.setIfInBounds_toArray, List.set_cons_zero, List.set_cons_succ]
        refine seq_take (by rfl) (by rfl) hS0 (v := ?_) ?_ ?_
        rotate_left
        · intro w1 hSw; (try dsimp only at hSw); simp only [List.getElem_toArray, List.getElem_cons_zero, List.getElem_cons_succ]; (try go_simp); try with_reducible rfl
        simp only [Act.put, List.getElem_toArray, List.getElem_cons_zero, List.getElem_cons_succ, List.setIfInBounds_toArray, List.set_cons_zero, List.set_cons_succ]
        refine seq_take (by rfl) (by rfl) hS0 (v := ?_) ?_ ?_
        rotate_left
        · intro w1 hSw; (try dsimp only at hSw); simp only [List.getElem_toArray, List.getElem_cons_zero, List.getElem_cons_succ]; (try go_simp); try with_reducible rfl
        simp only [Act.put, List.getElem_toArray, List.getElem_cons_zero, List.getElem_cons_succ, List.setIfInBounds_toArray, List.set_cons_zero, List.set_cons_succ]
        refine seq_take (by rfl) (by rfl) hS0 (v := ?_) ?_ ?_
        rotate_left
        · intro w1 hSw; (try dsimp only at hSw); simp only [List.getElem_toArray, List.getElem_cons_zero, List.getElem_cons_succ]; (try go_simp); try with_reducible rfl
        simp only [Act.put, List.getElem_toArray, List.getElem_cons_zero, List.getElem_cons_succ, List.setIfInBounds_toArray, List.set_cons_zero, List.set_cons_succ]
        refine seq_take (by rfl) (by rfl) hS0 (v := ?_) ?_ ?_
        rotate_left
        · intro w1 hSw; (try dsimp only at hSw); simp only [List.getElem_toArray, List.getElem_cons_zero, List.getElem_cons_succ]; (try go_simp); try with_reducible rfl
        simp only [Act.put, List.getElem_toArray, List.getElem_cons_zero, List.getElem_cons_succ, List.setIfInBounds_toArray, List.set_cons_zero, List.set_cons_succ]
        refine seq_take (by rfl) (by rfl) hS0 (v := ?_) ?_ ?_
        rotate_left
        · intro w1 hSw; (try dsimp only at hSw); simp only [List.getElem_toArray, List.getElem_cons_zero, List.getElem_cons_succ]; (try go_simp); try with_reducible rfl
        simp only [Act.put, List.getElem_toArray, List.getElem_cons_zero, List.getElem_cons_succ, List.setIfInBounds_toArray, List.set_cons_zero, List.set_cons_succ]
        refine seq_call (by rfl) (by rfl) ?_
        intro K hK
        simp only [List.getElem_toArray, List.getElem_cons_zero, List.getElem_cons_succ]
        go_simp
        refine (wants_s _ hs2.1).mono ?_; rintro e w1 ⟨rfl, rfl⟩
        refine hK _ _ hS0 ?_
        clear hK K
        refine seq_call (by rfl) (by rfl) ?_
        intro K hK
        simp only [List.getElem_toArray, List.getElem_cons_zero, List.getElem_cons_succ]
        go_simp
        refine (rwants_s _ hs2.1).mono ?_; rintro e w1 ⟨rfl, rfl⟩
        refine hK _ _ hS0 ?_
        clear hK K
        refine seq_take (by rfl) (by rfl) hS0 (v := ?_) ?_ ?_
        rotate_left
        · intro w1 hSw; (try dsimp only at hSw); simp only [List.getElem_toArray, List.getElem_cons_zero, List.getElem_cons_succ]; (try go_simp); try with_reducible rfl
        simp only [Act.put, List.getElem_toArray, List.getElem_cons_zero, List.getElem_cons_succ, List.setIfInBounds_toArray, List.set_cons_zero, List.set_cons_succ]
        refine seq_take (by rfl) (by rfl) hS0 (v := ?_) ?_ ?_
        rotate_left
        · intro w1 hSw; (try dsimp only at hSw); simp only [List.getElem_toArray, List.getElem_cons_zero, List.getElem_cons_succ]; (try go_simp); try with_reducible rfl
        simp only [Act.put, List.getElem_toArray, List.getElem_cons_zero, List.getElem_cons_succ, List.setIfInBounds_toArray, List.set_cons_zero, List.set_cons_succ]
        refine seq_done ?_
        clear hS0
        go_wp2_with fail
        go_roundw
        case rel => exact ⟨k + 1, turnS f j true, by omega, by go_num, hs2.1⟩
        case measure => simp [intOf]; omega
      · rw [hlv] at hs
        clear hlv
        have d0 := hs.d0
        have d1 := hs.d1
        refine region_seq [(0, true), (1, true), (2, true), (3, true), (4, true), (5, true), (7, true), (8, true), (9, true), (6, false), (10, false), (11, true), (12, true), (13, true), (14, true), (15, true), (16, true), (17, true), (18, true), (19, true), (20, true), (21, true), (22, true), (23, true), (24, true), (25, true), (26, true), (27, true), (28, true), (29, true), (30, true), (32, true), (31, false), (33, false), (34, true), (35, true), (36, true), (37, true), (38, true), (40, true), (41, true), (39, false), (42, false), (43, true), (44, true), (45, true), (46, true), (47, true), (48, true), (50, true), (51, true), (52, true), (49, false), (53, false), (54, true), (55, true)] (fun w1 => w1.cell? ⟨q, 0, none⟩ = some (.int .i64 j) ∧ w1.cell? ⟨q, 1, none⟩ = some (.bool true)) (by kernel_rfl) (by kernel_rfl) (Nat.le_of_eq (by kernel_rfl)) (by kernel_rfl) (fun _ _ _ _ _ h => h) ?_
        have hs0 := hs.drew
        have hS0 := hs0.cells
        clear hs d0 d1
        generalize w'.drew = W0 at *
        refine seq_take (by rfl) (by rfl) hS0 (v := ?_) ?_ ?_
        rotate_left
        · intro w1 hSw; (try dsimp only at hSw); simp only [List.getElem_toArray, List.getElem_cons_zero]; (try go_simp); try with_reducible rfl
        simp only [Act.put, List.getElem_toArray, List.getElem_cons_zero, List.setIfInBounds_toArray, List.set_cons_zero, List.set_cons_succ]
        refine seq_take (by rfl) (by rfl) hS0 (v := ?_) ?_ ?_
        rotate_left
        · intro w1 hSw; (try dsimp only at hSw); simp only [List.getElem_toArray, List.getElem_cons_zero, List.getElem_cons_succ]; (try go_simp); try with_reducible rfl
        simp only [Act.put, List.getElem_toArray, List.getElem_cons_zero, List.getElem_cons_succ, List.setIfInBounds_toArray, List.set_cons_zero, List.set_cons_succ]
        refine seq_take (by rfl) (by rfl) hS0 (v := ?_) ?_ ?_
        rotate_left
        · intro w1 hSw; (try dsimp only at hSw); simp only [List.getElem_toArray, List.getElem_cons_zero, List.getElem_cons_succ]; (try go_simp); try with_reducible rfl
        simp only [Act.put, List.getElem_toArray, List.getElem_cons_zero, List.getElem_cons_succ, List.setIfInBounds_toArray, List.set_cons_zero, List.set_cons_succ]
        refine seq_take (by rfl) (by rfl) hS0 (v := ?_) ?_ ?_
        rotate_left
        · intro w1 hSw; (try dsimp only at hSw); simp only [List.getElem_toArray, List.getElem_cons_zero, List.getElem_cons_succ]; (try go_simp); try with_reducible rfl
        simp only [Act.put, List.getElem_toArray, List.getElem_cons_zero, List.getElem_cons_succ, List.setIfInBounds_toArray, List.set_cons_zero, List.set_cons_succ]
        refine seq_take (by rfl) (by rfl) hS0 (v := ?_) ?_ ?_
        rotate_left
        · intro w1 hSw; (try dsimp only at hSw); simp only [List.getElem_toArray, List.getElem_cons_zero, List.getElem_cons_succ]; (try go_simp); try with_reducible rfl
        simp only [Act.put, List.getElem_toArray, List.getElem_cons_zero, List.getElem_cons_succ, List.setIfInBounds_toArray, List.set_cons_zero, List.set_cons_succ]
        refine seq_take (by rfl) (by rfl) hS0 (v := ?_) ?_ ?_
        rotate_left
        · intro w1 hSw; (try dsimp only at hSw); simp only [List.getElem_toArray, List.getElem_cons_zero, List.getElem_cons_succ]; (try go_simp); try with_reducible rfl
        simp only [Act.put, List.getElem_toArray, List.getElem_cons_zero, List.getElem_cons_succ, List.setIfInBounds_toArray, List.set_cons_zero, List.set_cons_succ]
        refine seq_take (by rfl) (by rfl) hS0 (v := ?_) ?_ ?_
        rotate_left
        · intro w1 hSw; (try dsimp only at hSw); simp only [List.getElem_toArray, List.getElem_cons_zero, List.getElem_cons_succ]; (try go_simp); try with_reducible rfl
        simp only [Act.put, List.getElem_toArray, List.getElem_cons_zero, List.getElem_cons_succ, List.setIfInBounds_toArray, List.set_cons_zero, List.set_cons_succ]
        refine seq_take (by rfl) (by rfl) hS0 (v := ?_) ?_ ?_
        rotate_left
        · intro w1 hSw; (try dsimp only at hSw); simp only [List.getElem_toArray, List.getElem_cons_zero, List.getElem_cons_succ]; (try go_simp); try with_reducible rfl
        simp only [Act.put, List.getElem_toArray, List.getElem_cons_zero, List.getElem_cons_succ, List.setIfInBounds_toArray, List.set_cons_zero, List.set_cons_succ]
        refine seq_take (by rfl) (by rfl) hS0 (v := ?_) ?_ ?_
        rotate_left
        · intro w1 hSw; (try dsimp only at hSw); simp only [List.getElem_toArray, List.getElem_cons_zero, List.getElem_cons_succ]; (try go_simp); try with_reducible rfl
        simp only [Act.put, List.getElem_toArray, List.getElem_cons_zero, List.getElem_cons_succ, List.setIfInBounds_toArray, List.set_cons_zero, List.set_cons_succ]
        refine seq_call (by rfl) (by rfl) ?_
        intro K hK
        simp only [List.getElem_toArray, List.getElem_cons_zero, List.getElem_cons_succ]
        go_simp
        refine (leave_s hs0).mono ?_; rintro e w1 ⟨rfl, hs1⟩
        refine hK _ _ hs1.cells ?_
        have hS0 := hs1.cells
        clear hK K hs0
        refine seq_call (by rfl) (by rfl) ?_
        intro K hK
        simp only [List.getElem_toArray, List.getElem_cons_zero, List.getElem_cons_succ]
        go_simp
        refine (rleave_s hs1).mono ?_; rintro e w1 ⟨rfl, hs2⟩
        refine hK _ _ hs2.cells ?_
        have hS0 := hs2.cells
        clear hK K hs1
        refine seq_take (by rfl) (by rfl) hS0 (v := ?_) ?_ ?_
        rotate_left
        · intro w1 hSw; (try dsimp only at hSw); simp only [List.getElem_toArray, List.getElem_cons_zero, List.getElem_cons_succ]; (try go_simp); try with_reducible rfl
        simp only [Act.put, List.getElem_toArray, List.getElem_cons_zero, List.getElem_cons_succ, List.setIfInBounds_toArray, List.set_cons_zero, List.set_cons_succ]
        refine seq_take (by rfl) (by rfl) hS0 (v := ?_) ?_ ?_
        rotate_left
        · intro w1 hSw; (try dsimp only at hSw); simp only [List.getElem_toArray, List.getElem_cons_zero, List.getElem_cons_succ]; (try go_simp); try with_reducible rfl
        simp only [Act.put, List.getElem_toArray, List.getElem_cons_zero, List.getElem_cons_succ, List.setIfInBounds_toArray, List.set_cons_zero, List.set_cons_succ]
        refine seq_take (by rfl) (by rfl) hS0 (v := ?_) ?_ ?_
        rotate_left
        · intro w1 hSw; (try dsimp only at hSw); simp only [List.getElem_toArray, List.getElem_cons_zero, List.getElem_cons_succ]; (try go_simp); try with_reducible rfl
        simp only [Act.put, List.getElem_toArray, List.getElem_cons_zero, List.getElem_cons_succ, List.setIfInBounds_toArray, List.set_cons_zero, List.set_cons_succ]
        refine seq_take (by rfl) (by rfl) hS0 (v := ?_) ?_ ?_
        rotate_left
        · intro w1 hSw; (try dsimp only at hSw); simp only [List.getElem_toArray, List.getElem_cons_zero, List.getElem_cons_succ]; (try go_simp); try with_reducible rfl
        simp only [Act.put, List.getElem_toArray, List.getElem_cons_zero, List.getElem_cons_succ, List.setIfInBounds_toArray, List.set_cons_zero, List.set_cons_succ]
        refine seq_take (by rfl) (by rfl) hS0 (v := ?_) ?_ ?_
        rotate_left
        · intro w1 hSw; (try dsimp only at hSw); simp only [List.getElem_toArray, List.getElem_cons_zero, List.getElem_cons_succ]; (try go_simp); try with_reducible rfl
        simp only [Act.put, List.getElem_toArray, List.getElem_cons_zero, List.getElem_cons_succ, List.setIfInBounds_toArray, List.set_cons_zero, List.set_cons_succ]
        refine seq_take (by rfl) (by rfl) hS0 (v := ?_) ?_ ?_
        rotate_left
        · intro w1 hSw; (try dsimp only at hSw); simp only [List.getElem_toArray, List.getElem_cons_zero, List.getElem_cons_succ]; (try go_simp); try with_reducible rfl
        simp only [Act.put, List.getElem_toArray, List.getElem_cons_zero, List.getElem_cons_succ, List.setIfInBounds_toArray, List.set_cons_zero, List.set_cons_succ]
        refine seq_take (by rfl) (by rfl) hS0 (v := ?_) ?_ ?_
        rotate_left
        · intro w1 hSw; (try dsimp only at hSw); simp only [List.getElem_toArray, List.getElem_cons_zero, List.getElem_cons_succ]; (try go_simp); try with_reducible rfl
        simp only [Act.put, List.getElem_toArray, List.getElem_cons_zero, List.getElem_cons_succ, List.setIfInBounds_toArray, List.set_cons_zero, List.set_cons_succ]
        refine seq_skip (by rfl) (by rfl) hS0 ?_
        simp only [Act.put, List.getElem_toArray, List.getElem_cons_zero, List.getElem_cons_succ, List.setIfInBounds_toArray, List.set_cons_zero, List.set_cons_succ]
        refine seq_skip (by rfl) (by rfl) hS0 ?_
        simp only [Act.put, List.getElem_toArray, List.getElem_cons_zero, List.getElem_cons_succ, List.setIfInBounds_toArray, List.set_cons_zero, List.set_cons_succ]
        refine seq_skip (by rfl) (by rfl) hS0 ?_
        simp only [Act.put, List.getElem_toArray, List.getElem_cons_zero, List.getElem_cons_succ, List.setIfInBounds_toArray, List.set_cons_zero, List.set_cons_succ]
        refine seq_skip (by rfl) (by rfl) hS0 ?_
        simp only [Act.put, List.getElem_toArray, List.getElem_cons_zero, List.getElem_cons_succ, List.setIfInBounds_toArray, List.set_cons_zero, List.set_cons_succ]
        refine seq_skip (by rfl) (by rfl) hS0 ?_
        simp only [Act.put, List.getElem_toArray, List.getElem_cons_zero, List.getElem_cons_succ, List.setIfInBounds_toArray, List.set_cons_zero, List.set_cons_succ]
        refine seq_skip (by rfl) (by rfl) hS0 ?_
        simp only [Act.put, List.getElem_toArray, List.getElem_cons_zero, List.getElem_cons_succ, List.setIfInBounds_toArray, List.set_cons_zero, List.set_cons_succ]
        refine seq_skip (by rfl) (by rfl) hS0 ?_
        simp only [Act.put, List.getElem_toArray, List.getElem_cons_zero, List.getElem_cons_succ, List.setIfInBounds_toArray, List.set_cons_zero, List.set_cons_succ]
        refine seq_skip (by rfl) (by rfl) hS0 ?_
        simp only [Act.put, List.getElem_toArray, List.getElem_cons_zero, List.getElem_cons_succ, List.setIfInBounds_toArray, List.set_cons_zero, List.set_cons_succ]
        refine seq_skip (by rfl) (by rfl) hS0 ?_
        simp only [Act.put, List.getElem_toArray, List.getElem_cons_zero, List.getElem_cons_succ, List.setIfInBounds_toArray, List.set_cons_zero, List.set_cons_succ]
        refine seq_take (by rfl) (by rfl) hS0 (v := ?_) ?_ ?_
        rotate_left
        · intro w1 hSw; (try dsimp only at hSw); simp only [List.getElem_toArray, List.getElem_cons_zero, List.getElem_cons_succ]; (try go_simp); try with_reducible rfl
        simp only [Act.put, List.getElem_toArray, List.getElem_cons_zero, List.getElem_cons_succ, List.setIfInBounds_toArray, List.set_cons_zero, List.set_cons_succ]
        refine seq_take (by rfl) (by rfl) hS0 (v := ?_) ?_ ?_
        rotate_left
        · intro w1 hSw; (try dsimp only at hSw); simp only [List.getElem_toArray, List.getElem_cons_zero, List.getElem_cons_succ]; (try go_simp); try with_reducible rfl
        simp only [Act.put, List.getElem_toArray, List.getElem_cons_zero, List.getElem_cons_succ, List.setIfInBounds_toArray, List.set_cons_zero, List.set_cons_succ]
        refine seq_take (by rfl) (by rfl) hS0 (v := ?_) ?_ ?_
        rotate_left
        · intro w1 hSw; (try dsimp only at hSw); simp only [List.getElem_toArray, List.getElem_cons_zero, List.getElem_cons_succ]; (try go_simp); try with_reducible rfl
        simp only [Act.put, List.getElem_toArray, List.getElem_cons_zero, List.getElem_cons_succ, List.setIfInBounds_toArray, List.set_cons_zero, List.set_cons_succ]
        refine seq_take (by rfl) (by rfl) hS0 (v := ?_) ?_ ?_
        rotate_left
        · intro w1 hSw; (try dsimp only at hSw); simp only [List.getElem_toArray, List.getElem_cons_zero, List.getElem_cons_succ]; (try go_simp); try with_reducible rfl
        simp only [Act.put, List.getElem_toArray, List.getElem_cons_zero, List.getElem_cons_succ, List.setIfInBounds_toArray, List.set_cons_zero, List.set_cons_succ]
        refine seq_take (by rfl) (by rfl) hS0 (v := ?_) ?_ ?_
        rotate_left
        · intro w1 hSw; (try dsimp only at hSw); simp only [List.getElem_toArray, List.getElem_cons_zero, List.getElem_cons_succ]; (try go_simp); try with_reducible rfl
        simp only [Act.put, List.getElem_toArray, List.getElem_cons_zero, List.getElem_cons_succ, List.setIfInBounds_toArray, List.set_cons_zero, List.set_cons_succ]
        refine seq_call (by rfl) (by rfl) ?_
        intro K hK
        simp only [List.getElem_toArray, List.getElem_cons_zero, List.getElem_cons_succ]
        go_simp
        refine (groups_s hs2.1).mono ?_; rintro e w1 ⟨rfl, rfl⟩
        refine hK _ _ hS0 ?_
        clear hK K
        refine seq_call (by rfl) (by rfl) ?_
        intro K hK
        simp only [List.getElem_toArray, List.getElem_cons_zero, List.getElem_cons_succ]
        go_simp
        refine (rgroups_s hs2.1).mono ?_; rintro e w1 ⟨rfl, rfl⟩
        refine hK _ _ hS0 ?_
        clear hK K
        refine seq_take (by rfl) (by rfl) hS0 (v := ?_) ?_ ?_
        rotate_left
        · intro w1 hSw; (try dsimp only at hSw); simp only [List.getElem_toArray, List.getElem_cons_zero, List.getElem_cons_succ]; (try go_simp); try with_reducible rfl
        simp only [Act.put, List.getElem_toArray, List.getElem_cons_zero, List.getElem_cons_succ, List.setIfInBounds_toArray, List.set_cons_zero, List.set_cons_succ]
        refine seq_take (by rfl) (by rfl) hS0 (v := ?_) ?_ ?_
        rotate_left
        · intro w1 hSw; (try dsimp only at hSw); simp only [List.getElem_toArray, List.getElem_cons_zero, List.getElem_cons_succ]; (try go_simp); try with_reducible rfl
        simp only [Act.put, List.getElem_toArray, List.getElem_cons_zero, List.getElem_cons_succ, List.setIfInBounds_toArray, List.set_cons_zero, List.set_cons_succ]
        refine seq_take (by rfl) (by rfl) hS0 (v := ?_) ?_ ?_
        rotate_left
        · intro w1 hSw; (try dsimp only at hSw); simp only [List.getElem_toArray, List.getElem_cons_zero, List.getElem_cons_succ]; (try go_simp); try with_reducible rfl
        simp only [Act.put, List.getElem_toArray, List.getElem_cons_zero, List.getElem_cons_succ, List.setIfInBounds_toArray, List.set_cons_zero, List.set_cons_succ]
        refine seq_take (by rfl) (by rfl) hS0 (v := ?_) ?_ ?_
        rotate_left
        · intro w1 hSw; (try dsimp only at hSw); simp only [List.getElem_toArray, List.getElem_cons_zero, List.getElem_cons_succ]; (try go_simp); try with_reducible rfl
        simp only [Act.put, List.getElem_toArray, List.getElem_cons_zero, List.getElem_cons_succ, List.setIfInBounds_toArray, List.set_cons_zero, List.set_cons_succ]
        refine seq_take (by rfl) (by rfl) hS0 (v := ?_) ?_ ?_
        rotate_left
        · intro w1 hSw; (try dsimp only at hSw); simp only [List.getElem_toArray, List.getElem_cons_zero, List.getElem_cons_succ]; (try go_simp); try with_reducible rfl
        simp only [Act.put, List.getElem_toArray, List.getElem_cons_zero, List.getElem_cons_succ, List.setIfInBounds_toArray, List.set_cons_zero, List.set_cons_succ]
        refine seq_take (by rfl) (by rfl) hS0 (v := ?_) ?_ ?_
        rotate_left
        · intro w1 hSw; (try dsimp only at hSw); simp only [List.getElem_toArray, List.getElem_cons_zero, List.getElem_cons_succ]; (try go_simp); try with_reducible rfl
        simp only [Act.put, List.getElem_toArray, List.getElem_cons_zero, List.getElem_cons_succ, List.setIfInBounds_toArray, List.set_cons_zero, List.set_cons_succ]
        refine seq_take (by rfl) (by rfl) hS0 (v := ?_) ?_ ?_
        rotate_left
        · intro w1 hSw; (try dsimp only at hSw); simp only [List.getElem_toArray, List.getElem_cons_zero, List.getElem_cons_succ]; (try go_simp); try with_reducible rfl
        simp only [Act.put, List.getElem_toArray, List.getElem_cons_zero, List.getElem_cons_succ, List.setIfInBounds_toArray, List.set_cons_zero, List.set_cons_succ]
        refine seq_call (by rfl) (by rfl) ?_
        intro K hK
        simp only [List.getElem_toArray, List.getElem_cons_zero, List.getElem_cons_succ]
        go_simp
        refine (wants_s _ hs2.1).mono ?_; rintro e w1 ⟨rfl, rfl⟩
        refine hK _ _ hS0 ?_
        clear hK K
        refine seq_call (by rfl) (by rfl) ?_
        intro K hK
        simp only [List.getElem_toArray, List.getElem_cons_zero, List.getElem_cons_succ]
        go_simp
        refine (rwants_s _ hs2.1).mono ?_; rintro e w1 ⟨rfl, rfl⟩
        refine hK _ _ hS0 ?_
        clear hK K
        refine seq_take (by rfl) (by rfl) hS0 (v := ?_) ?_ ?_
        rotate_left
        · intro w1 hSw; (try dsimp only at hSw); simp only [List.getElem_toArray, List.getElem_cons_zero, List.getElem_cons_succ]; (try go_simp); try with_reducible rfl
        simp only [Act.put, List.getElem_toArray, List.getElem_cons_zero, List.getElem_cons_succ, List.setIfInBounds_toArray, List.set_cons_zero, List.set_cons_succ]
        refine seq_take (by rfl) (by rfl) hS0 (v := ?_) ?_ ?_
        rotate_left
        · intro w1 hSw; (try dsimp only at hSw); simp only [List.getElem_toArray, List.getElem_cons_zero, List.getElem_cons_succ]; (try go_simp); try with_reducible rfl
        simp only [Act.put, List.getElem_toArray, List.getElem_cons_zero, List.getElem_cons_succ, List.setIfInBounds_toArray, List.set_cons_zero, List.set_cons_succ]
        refine seq_take (by rfl) (by rfl) hS0 (v := ?_) ?_ ?_
        rotate_left
        · intro w1 hSw; (try dsimp only at hSw); simp only [List.getElem_toArray, List.getElem_cons_zero, List.getElem_cons_succ]; (try go_simp); try with_reducible rfl
        simp only [Act.put, List.getElem_toArray, List.getElem_cons_zero, List.getElem_cons_succ, List.setIfInBounds_toArray, List.set_cons_zero, List.set_cons_succ]
        refine seq_take (by rfl) (by rfl) hS0 (v := ?_) ?_ ?_
        rotate_left
        · intro w1 hSw; (try dsimp only at hSw); simp only [List.getElem_toArray, List.getElem_cons_zero, List.getElem_cons_succ]; (try go_simp); try with_reducible rfl
        simp only [Act.put, List.getElem_toArray, List.getElem_cons_zero, List.getElem_cons_succ, List.setIfInBounds_toArray, List.set_cons_zero, List.set_cons_succ]
        refine seq_take (by rfl) (by rfl) hS0 (v := ?_) ?_ ?_
        rotate_left
        · intro w1 hSw; (try dsimp only at hSw); simp only [List.getElem_toArray, List.getElem_cons_zero, List.getElem_cons_succ]; (try go_simp); try with_reducible rfl
        simp only [Act.put, List.getElem_toArray, List.getElem_cons_zero, List.getElem_cons_succ, List.setIfInBounds_toArray, List.set_cons_zero, List.set_cons_succ]
        refine seq_take (by rfl) (by rfl) hS0 (v := ?_) ?_ ?_
        rotate_left
        · intro w1 hSw; (try dsimp only at hSw); simp only [List.getElem_toArray, List.getElem_cons_zero, List.getElem_cons_succ]; (try go_simp); try with_reducible rfl
        simp only [Act.put, List.getElem_toArray, List.getElem_cons_zero, List.getElem_cons_succ, List.setIfInBounds_toArray, List.set_cons_zero, List.set_cons_succ]
        refine seq_take (by rfl) (by rfl) hS0 (v := ?_) ?_ ?_
        rotate_left
        · intro w1 hSw; (try dsimp only at hSw); simp only [List.getElem_toArray, List.getElem_cons_zero, List.getElem_cons_succ]; (try go_simp); try with_reducible rfl
        simp only [Act.put, List.getElem_toArray, List.getElem_cons_zero, List.getElem_cons_succ, List.setIfInBounds_toArray, List.set_cons_zero, List.set_cons_succ]
        refine seq_take (by rfl) (by rfl) hS0 (v := ?_) ?_ ?_
        rotate_left
        · intro w1 hSw; (try dsimp only at hSw); simp only [List.getElem_toArray, List.getElem_cons_zero, List.getElem_cons_succ]; (try go_simp); try with_reducible rfl
        simp only [Act.put, List.getElem_toArray, List.getElem_cons_zero, List.getElem_cons_succ, List.setIfInBounds_toArray, List.set_cons_zero, List.set_cons_succ]
        refine seq_take (by rfl) (by rfl) hS0 (v := ?_) ?_ ?_
        rotate_left
        · intro w1 hSw; (try dsimp only at hSw); simp only [List.getElem_toArray, List.getElem_cons_zero, List.getElem_cons_succ]; (try go_simp); try with_reducible rfl
        simp only [Act.put, List.getElem_toArray, List.getElem_cons_zero, List.getElem_cons_succ, List.setIfInBounds_toArray, List.set_cons_zero, List.set_cons_succ]
        refine seq_call (by rfl) (by rfl) ?_
        intro K hK
        simp only [List.getElem_toArray, List.getElem_cons_zero, List.getElem_cons_succ]
        go_simp
        refine (wants_s _ hs2.1).mono ?_; rintro e w1 ⟨rfl, rfl⟩
        refine hK _ _ hS0 ?_
        clear hK K
        refine seq_call (by rfl) (by rfl) ?_
        intro K hK
        simp only [List.getElem_toArray, List.getElem_cons_zero, List.getElem_cons_succ]
        go_simp
        refine (rwants_s _ hs2.1).mono ?_; rintro e w1 ⟨rfl, rfl⟩
        refine hK _ _ hS0 ?_
        clear hK K
        refine seq_take (by rfl) (by rfl) hS0 (v := ?_) ?_ ?_
        rotate_left
        · intro w1 hSw; (try dsimp only at hSw); simp only [List.getElem_toArray, List.getElem_cons_zero, List.getElem_cons_succ]; (try go_simp); try with_reducible rfl
        simp only [Act.put, List.getElem_toArray, List.getElem_cons_zero, List.getElem_cons_succ, List.setIfInBounds_toArray, List.set_cons_zero, List.set_cons_succ]
        refine seq_take (by rfl) (by rfl) hS0 (v := ?_) ?_ ?_
        rotate_left
        · intro w1 hSw; (try dsimp only at hSw); simp only [List.getElem_toArray, List.getElem_cons_zero, List.getElem_cons_succ]; (try go_simp); try with_reducible rfl
        simp only [Act.put, List.getElem_toArray, List.getElem_cons_zero, List.getElem_cons_succ, List.setIfInBounds_toArray, List.set_cons_zero, List.set_cons_succ]
        refine seq_done ?_
        clear hS0
        go_wp2_with fail
        go_roundw
        case rel => exact ⟨k + 1, turnS f j false, by omega, by go_num, hs2.1⟩
        case measure => simp [intOf]; omega
    · go_wp2_with fail
      go_loop [10] (fun i => ∃ m : Int, -2 ≤ m ∧ m ≤ 258 ∧ i = .int .i64 m) (fun i => (258 - intOf i).toNat)
      case atStart => exact ⟨-2, by omega, by omega, rfl⟩
      case round =>
        obtain ⟨m, hm0, hm1, rfl⟩ := hrel
        by_cases hm : m < 258
        · go_wp2_with fail
          refine (wants_s _ hq).mono ?_; rintro e w' ⟨rfl, rfl⟩
          go_wp2_with fail
          refine (rwants_s _ hq).mono ?_; rintro e w' ⟨rfl, rfl⟩
          go_wp2_with fail
          go_round
          case rel => exact ⟨m + 1, by omega, by omega, by go_num⟩
          case measure => simp [intOf]; omega
        · go_wp2_with fail
          have hb := hq.1
          clear hq
          refine (works_any _).mono ?_; rintro e w' ⟨rfl, hb1⟩
          go_wp2_with fail
          go_ret
          exact ⟨rfl, hb.trans (hb1.mono hb.size)⟩

set_option maxRecDepth 100000 in
theorem lifted (os : Os) (started : os.Started) (H : Type) (enc : TypeId × Value → H) :
    ReturnsInHanded {} Try.checked os 3 .any (Rows.rollsDeedsSpec.pre6 enc Try.prog Try.f3 Rows.rollsDeedsRow.domain false) (Rows.rollsDeedsSpec.post enc Try.prog Try.f3 false true false false) := by
  refine returnsInHanded_of_change (C := Try.checked) own started (by kernel_rfl) Try.func3
    (ChangeSpec.witness6 (enc := enc) (C := Try.checked) false ⟨#[], #[.slice none 0 0, .int .i64 0], []⟩ 8 (by kernel_rfl) (by kernel_rfl) (by kernel_rfl) (by kernel_rfl)) ?_
  intro W base args ds gs before hval0 hW hcnd _
  have hval : ∀ (j : Nat) t v, Try.f3.params[j]? = some t → args[j]? = some v → Value.okWide Try.prog W .any base t v := hval0
  have hW' := hW
  obtain ⟨p, q, hA0, hV, rfl, hfz, hnd⟩ := hW
  have hA : DataW.TrodAll enc Try.prog W 0 (fun _ => true) true Try.f3.params.toList args.toList ds p := hA0
  rw [Try.params3] at hA hval
  obtain ⟨v0, vs0, d0, ds0, p0, q0, hargs, rfl, rfl, h0, r0⟩ := trodAll_cons hA
  obtain ⟨v1, vs1, d1, ds1, p1, q1, rfl, rfl, rfl, h1, r1⟩ := trodAll_cons r0
  obtain ⟨rfl, rfl, rfl⟩ := trodAll_nil r1
  obtain rfl : args = #[v0, v1] := by cases args; simp_all
  obtain ⟨rfl, rfl⟩ := trodVars_none hV
  have k0 := h0
  have lt0 : ∀ x ∈ p0, x.block < W.heap.size := by obtain ⟨m, hm⟩ := k0; exact DataW.trod_lt m _ _ _ hm
  obtain ⟨s0, len0, cap0, rfl⟩ := okWide_slice Try.underlying22 (hval 0 22 v0 rfl rfl)
  obtain ⟨F0, F1, hrd, hml, hwf⟩ := open_ib Try.underlying22 Try.underlying28 (by kernel_rfl) Try.underlying3 Try.underlying4 (by kernel_rfl) h0
  obtain ⟨a1, rfl, rfl, rfl, w1⟩ := open_int Try.underlying3 (hval 1 3 v1 rfl rfl) h1
  clear hA0 hval0
  refine (walk s0 len0 cap0 F0 F1 a1 W (by unfold maxLen at hml; omega) hrd (fun i hi => wf_bd (hwf i hi))).mono fun e W' ⟨he, bel⟩ => ?_
  subst he
  exact ⟨_, rfl, _, _, _, [], _, [], hW', trodAll_mk1 (shut_bool Try.underlying4 _), (trodAll_cons_mk (Below.trod laidOut (by kernel_rfl) (of_decide_eq_true (by kernel_rfl)) k0 bel lt0) (trodAll_cons_mk (shut_int Try.underlying3 w1) trodAll_mk0)), rfl, bel.frame _, fun h => by cases h⟩

theorem over : Rows.rollsDeedsRow.holds Try.pinned (OpenSpec.ofChange Rows.rollsDeedsSpec) :=
  OpenClaim.holds_of_wide 3 Try.f3 rfl rfl rfl rfl rfl rfl rfl ⟨rfl, rfl, rfl, rfl, rfl⟩ rfl rfl rfl rfl rfl (by kernel_rfl) Try.func3 (by kernel_rfl)
    (of_decide_eq_true (by kernel_rfl)) (by unfold Func.isWrapper; first | (rw [if_pos (by decide +kernel)]; kernel_rfl) | (rw [if_neg (by decide +kernel)]; exact ⟨rfl, rfl⟩))
    (fun os started H enc _ => lifted os started H enc)

theorem proved : Rows.RollsDeedsSaid := over
#print axioms proved
end Go.Proofs.Ytogcjflppjebfaa.rollsDeeds
