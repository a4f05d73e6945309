/-
  hauberklaw07.CellDeeds returns true for every l, and its argument reads as before. No condition.
  The frame (lifted, over, proved) is a print of a program, after the way of the seat's proof-skeleton.
-/
import Derived.Test.YtklpgegooakfjaaWorks
import Derived.Test.YtklpgegooakfjaaSeq
namespace Go.Proofs.Ytklpgegooakfjaa.cellDeeds
open Go.ChangeShapes Go.WideShapes Go.ChangeAt Go.RowKit Go.Deep
set_option linter.unusedVariables false

/-- The program's cells (blocks ga and go), the reference's (gb) that agrees with (st2, k2); what lay below ahead of them is as it was. -/
def W3 (w0 : World) (ga gb go : Nat) (st k st2 k2 : Int) (w : World) : Prop :=
  Below w0.heap.size w0 w ∧ w0.heap.size ≤ ga ∧ w0.heap.size ≤ gb ∧ w0.heap.size ≤ go ∧ ga ≠ go ∧ Blk w ga 41 (cl st k) ∧ RC gb st2 k2 w ∧ ∃ so ko, (1 ≤ so ∧ so ≤ 4) ∧ Blk w go 41 (cl so ko)
/-- .. and the deed's copy in block q. -/
def D3 (w0 : World) (ga gb go q : Nat) (st k st2 k2 : Int) (d : Array Value) (w : World) : Prop := W3 w0 ga gb go st k st2 k2 w ∧ w0.heap.size ≤ q ∧ Blk w q 28 d

theorem agree_v {st : Int} {d a b : Bool} (h : Agree st d a b) : 1 ≤ st ∧ st ≤ 4 := by
  rcases h with ⟨h, _⟩ | ⟨h, _⟩ | ⟨h, _⟩ | ⟨h, _⟩ <;> omega
theorem agree_d {st : Int} {d a b : Bool} (h : Agree st d a b) : (st == 4) = d := by
  rcases h with ⟨rfl, rfl, _⟩ | ⟨rfl, rfl, _⟩ | ⟨rfl, rfl, _⟩ | ⟨rfl, rfl, _⟩ <;> rfl
theorem rc_fr {g : Nat} {st k : Int} {w w' : World} {b : Nat} {cs : Array Value} (h : RC g st k w) (hf : Fr b w w') (hb : Blk w b 41 cs) : RC g st k w' := by
  obtain ⟨d, a, b', h1, h2⟩ := h
  exact ⟨d, a, b', h1, h2.grown hf (fun e => h2.ne_ hb (by decide) (by injection e))⟩
theorem rc_alloc {g : Nat} {st k : Int} {w : World} (h : RC g st k w) (o : Obj) : RC g st k (w.alloc o) := by
  obtain ⟨d, a, b', h1, h2⟩ := h
  exact ⟨d, a, b', h1, h2.alloc o⟩
theorem rc_v {g : Nat} {st k : Int} {w : World} (h : RC g st k w) : 1 ≤ st ∧ st ≤ 4 := by
  obtain ⟨d, a, b', h1, _⟩ := h
  exact agree_v h1
theorem rc_cells {g : Nat} {st k : Int} {w : World} (h : RC g st k w) {dn : Bool} (hdn : (st == 4) = dn) : w.cell? ⟨g, 0, none⟩ = some (.int .i64 k) ∧ w.cell? ⟨g, 1, none⟩ = some (.bool dn) := by
  obtain ⟨d, a, b', h1, h2⟩ := h
  rw [← hdn, agree_d h1]
  exact ⟨h2.cell 0, h2.cell 1⟩
section
variable {w0 w w' : World} {ga gb go q : Nat} {st k st2 k2 st' k' : Int} {d : Array Value}
theorem W3.drew (h : W3 w0 ga gb go st k st2 k2 w) : W3 w0 ga gb go st k st2 k2 w.drew := ⟨below_draws h.1 1, h.2⟩
theorem D3.drew (h : D3 w0 ga gb go q st k st2 k2 d w) : D3 w0 ga gb go q st k st2 k2 d w.drew := ⟨h.1.drew, h.2⟩
theorem W3.deed (h : W3 w0 ga gb go st k st2 k2 w) (d : Array Value) : D3 w0 ga gb go w.heap.size st k st2 k2 d (w.alloc (.cells d 28)) := by
  obtain ⟨h1, h2, h3, h4, h5, h6, h7, so, ko, hv, h8⟩ := h
  exact ⟨⟨h1.alloc h1.size _, h2, h3, h4, h5, h6.alloc _, rc_alloc h7 _, so, ko, hv, h8.alloc _⟩, h1.size, Blk.new _ _ _⟩
theorem D3.turnA (h : D3 w0 ga gb go q st k st2 k2 d w) (hb : Blk w' ga 41 (cl st' k')) (hf : Fr ga w w') : D3 w0 ga gb go q st' k' st2 k2 d w' := by
  obtain ⟨⟨h1, h2, h3, h4, h5, h6, h7, so, ko, hv, h8⟩, h9, h10⟩ := h
  exact ⟨⟨h1.grown hf (by have := h1.size; omega) (fun j hj => by injection hj with hj; omega), h2, h3, h4, h5, hb, rc_fr h7 hf h6, so, ko, hv, h8.grown hf (fun e => h5 (by injection e with e; exact e.symm))⟩, h9, h10.grown hf (fun e => h10.ne_ h6 (by decide) (by injection e))⟩
theorem D3.turnO (h : D3 w0 ga gb go q st k st2 k2 d w) (hv' : 1 ≤ st' ∧ st' ≤ 4) (hb : Blk w' go 41 (cl st' k')) (hf : Fr go w w') : D3 w0 ga gb go q st k st2 k2 d w' := by
  obtain ⟨⟨h1, h2, h3, h4, h5, h6, h7, so, ko, hv, h8⟩, h9, h10⟩ := h
  exact ⟨⟨h1.grown hf (by have := h1.size; omega) (fun j hj => by injection hj with hj; omega), h2, h3, h4, h5, h6.grown hf (fun e => h5 (by injection e)), rc_fr h7 hf h8, st', k', hv', hb⟩, h9, h10.grown hf (fun e => h10.ne_ h8 (by decide) (by injection e))⟩
theorem D3.turnB (h : D3 w0 ga gb go q st k st2 k2 d w) (hb : RC gb st' k' w') (hf : Fr gb w w') : D3 w0 ga gb go q st k st' k' d w' := by
  obtain ⟨⟨h1, h2, h3, h4, h5, h6, ⟨d7, a7, b7, g7, h7⟩, so, ko, hv, h8⟩, h9, h10⟩ := h
  exact ⟨⟨h1.grown hf (by have := h1.size; omega) (fun j hj => by injection hj with hj; omega), h2, h3, h4, h5, h6.grown hf (fun e => h6.ne_ h7 (by decide) (by injection e)), hb, so, ko, hv, h8.grown hf (fun e => h8.ne_ h7 (by decide) (by injection e))⟩, h9, h10.grown hf (fun e => h10.ne_ h7 (by decide) (by injection e))⟩
theorem writeA (n r : Int) (hr : wr st k n = (r, st', k')) (hv : 1 ≤ st ∧ st ≤ 4) (h : D3 w0 ga gb go q st k st2 k2 d w) : Calls Try.prog 10 #[.pointer (some ⟨ga, 0, none⟩), .int .i64 n] w fun e w' => e = .returned (.int .i64 r) ∧ D3 w0 ga gb go q st' k' st2 k2 d w' :=
  (write_any ga st k n w (by omega) h.1.2.2.2.2.2.1).mono fun e w' ⟨he, hb, hf⟩ => by rw [hr] at he hb; exact ⟨he, h.turnA hb hf⟩
theorem writeR (n r : Int) (hr : wr st2 k2 n = (r, st', k')) (h : D3 w0 ga gb go q st k st2 k2 d w) : Calls Try.prog 11 #[.pointer (some ⟨gb, 0, none⟩), .int .i64 n] w fun e w' => e = .returned (.int .i64 r) ∧ D3 w0 ga gb go q st k st' k' d w' :=
  (ref_write gb st2 k2 n w h.1.2.2.2.2.2.2.1).mono fun e w' ⟨he, hb, hf⟩ => by rw [hr] at he hb; exact ⟨he, h.turnB hb hf⟩
theorem crashA (b : Bool) (r : Int) (hr : cr st b = (r, st')) (hv : 1 ≤ st ∧ st ≤ 4) (h : D3 w0 ga gb go q st k st2 k2 d w) : Calls Try.prog 12 #[.pointer (some ⟨ga, 0, none⟩), .bool b] w fun e w' => e = .returned (.int .i64 r) ∧ D3 w0 ga gb go q st' k st2 k2 d w' :=
  (crash_any ga st k b w (by omega) h.1.2.2.2.2.2.1).mono fun e w' ⟨he, hb, hf⟩ => by rw [hr] at he hb; exact ⟨he, h.turnA hb hf⟩
theorem crashR (b : Bool) (r : Int) (hr : cr st2 b = (r, st')) (h : D3 w0 ga gb go q st k st2 k2 d w) : Calls Try.prog 13 #[.pointer (some ⟨gb, 0, none⟩), .bool b] w fun e w' => e = .returned (.int .i64 r) ∧ D3 w0 ga gb go q st k st' k2 d w' :=
  (ref_crash gb st2 k2 b w h.1.2.2.2.2.2.2.1).mono fun e w' ⟨he, hb, hf⟩ => by rw [hr] at he hb; exact ⟨he, h.turnB hb hf⟩
theorem startA (r : Int) (hr : sr st = (r, st')) (hv : 1 ≤ st ∧ st ≤ 4) (h : D3 w0 ga gb go q st k st2 k2 d w) : Calls Try.prog 14 #[.pointer (some ⟨ga, 0, none⟩)] w fun e w' => e = .returned (.int .i64 r) ∧ D3 w0 ga gb go q st' k st2 k2 d w' :=
  (start_any ga st k w (by omega) h.1.2.2.2.2.2.1).mono fun e w' ⟨he, hb, hf⟩ => by rw [hr] at he hb; exact ⟨he, h.turnA hb hf⟩
theorem startR (r : Int) (hr : sr st2 = (r, st')) (h : D3 w0 ga gb go q st k st2 k2 d w) : Calls Try.prog 15 #[.pointer (some ⟨gb, 0, none⟩)] w fun e w' => e = .returned (.int .i64 r) ∧ D3 w0 ga gb go q st k st' k2 d w' :=
  (ref_start gb st2 k2 w h.1.2.2.2.2.2.2.1).mono fun e w' ⟨he, hb, hf⟩ => by rw [hr] at he hb; exact ⟨he, h.turnB hb hf⟩
theorem wr_v (st k n : Int) (hv : 1 ≤ st ∧ st ≤ 4) : 1 ≤ (wr st k n).2.1 ∧ (wr st k n).2.1 ≤ 4 := by
  unfold wr; split <;> (try split) <;> (try split) <;> (try split) <;> (try split) <;> simp <;> omega
theorem cr_v (st : Int) (b : Bool) (hv : 1 ≤ st ∧ st ≤ 4) : 1 ≤ (cr st b).2 ∧ (cr st b).2 ≤ 4 := by
  unfold cr; split
  · exact hv
  · split
    · exact hv
    · cases b <;> simp
theorem writeO (n : Int) (h : D3 w0 ga gb go q st k st2 k2 d w) : Calls Try.prog 10 #[.pointer (some ⟨go, 0, none⟩), .int .i64 n] w fun e w' => ∃ r : Int, e = .returned (.int .i64 r) ∧ D3 w0 ga gb go q st k st2 k2 d w' := by
  obtain ⟨so, ko, hv, h8⟩ := h.1.2.2.2.2.2.2.2
  exact (write_any go so ko n w (by omega) h8).mono fun e w' ⟨he, hb, hf⟩ => ⟨_, he, h.turnO (wr_v so ko n hv) hb hf⟩
theorem crashO (b : Bool) (h : D3 w0 ga gb go q st k st2 k2 d w) : Calls Try.prog 12 #[.pointer (some ⟨go, 0, none⟩), .bool b] w fun e w' => ∃ r : Int, e = .returned (.int .i64 r) ∧ D3 w0 ga gb go q st k st2 k2 d w' := by
  obtain ⟨so, ko, hv, h8⟩ := h.1.2.2.2.2.2.2.2
  exact (crash_any go so ko b w (by omega) h8).mono fun e w' ⟨he, hb, hf⟩ => ⟨_, he, h.turnO (cr_v so b hv) hb hf⟩
theorem readA (h : D3 w0 ga gb go q st k st2 k2 d w) : Calls Try.prog 16 #[.pointer (some ⟨ga, 0, none⟩)] w fun e w' => e = .returned (.int .i64 k) ∧ w = w' := read_any ga st k w h.1.2.2.2.2.2.1
theorem downA (r : Bool) (hr : (st == 4) = r) (h : D3 w0 ga gb go q st k st2 k2 d w) : Calls Try.prog 17 #[.pointer (some ⟨ga, 0, none⟩)] w fun e w' => e = .returned (.bool r) ∧ w = w' := down_any ga st k r hr w h.1.2.2.2.2.2.1
theorem D3.d0 {x y z : Value} (h : D3 w0 ga gb go q st k st2 k2 #[x, y, z] w) : w.cell? ⟨q, 0, none⟩ = some x := h.2.2.cell 0
theorem D3.d1 {x y z : Value} (h : D3 w0 ga gb go q st k st2 k2 #[x, y, z] w) : w.cell? ⟨q, 1, none⟩ = some y := h.2.2.cell 1
theorem D3.d2 {x y z : Value} (h : D3 w0 ga gb go q st k st2 k2 #[x, y, z] w) : w.cell? ⟨q, 2, none⟩ = some z := h.2.2.cell 2
end

set_option maxRecDepth 100000 in
set_option maxHeartbeats 16000000 in
theorem walk (A : Option Addr) (len cap : Nat) (F0 F1 : Nat → Int) (F2 : Nat → Bool) (w : World) (hl : len ≤ 9223372036854775807)
    (hA : Rd w 3 A len (fun i => [.int .i64 (F0 i), .int .i64 (F1 i), .bool (F2 i)])) (hb : ∀ i, i < len → (-9223372036854775808 ≤ F0 i ∧ F0 i ≤ 9223372036854775807)) :
    Calls Try.prog 3 #[.slice A len cap] w fun e w' => e = .returned (.bool true) ∧ Below w.heap.size w w' := by
  have HA := Lib.hid hA; clear hA
  have HB := Lib.hid hb; clear hb
  go_enter Try.func3, Try.ntmps3
  go_wp2_with fail
  refine (new_any _).mono ?_; rintro e w1 ⟨rfl, hw1⟩
  have l1 : Below w.heap.size w w1 ∧ w1.heap.size = w.heap.size + 1 ∧ Blk w1 w.heap.size 41 (cl 1 0) := by
    rw [hw1]
    exact ⟨(Below.refl _ _).alloc (Nat.le_refl _) _, by simp, Blk.new _ _ _⟩
  clear hw1
  have L1 := Lib.hid l1; clear l1
  go_wp2_with fail
  refine (ref_new _).mono ?_; rintro e w2 ⟨rfl, hw2⟩
  have l2 : Below w.heap.size w w2 ∧ w2.heap.size = w1.heap.size + 1 ∧ Blk w2 w.heap.size 41 (cl 1 0) ∧ RC w1.heap.size 1 0 w2 := by
    rw [hw2]
    exact ⟨L1.out.1.alloc L1.out.1.size _, by simp, L1.out.2.2.alloc _, false, false, false, .inl ⟨rfl, rfl, rfl⟩, Blk.new _ _ _⟩
  clear hw2
  have L2 := Lib.hid l2; clear l2
  go_wp2_with fail
  refine (new_any _).mono ?_; rintro e w3 ⟨rfl, hw3⟩
  have hq : W3 w w.heap.size w1.heap.size w2.heap.size 1 0 1 0 w3 := by
    rw [hw3]
    exact ⟨L2.out.1.alloc L2.out.1.size _, Nat.le_refl _, L1.out.1.size, L2.out.1.size, by have := L1.out.2.1; have := L2.out.2.1; omega, L2.out.2.2.1.alloc _, rc_alloc L2.out.2.2.2 _, 1, 0, by omega, Blk.new _ _ _⟩
  clear hw3 L1 L2
  have Q0 := Lib.hid hq; clear hq
  go_wp2_with fail
  go_loopw [6] (fun i wr => ∃ (x : Nat) (st k : Int), x ≤ len ∧ i = .int .i64 x ∧ W3 w w.heap.size w1.heap.size w2.heap.size st k st k wr) (fun i _ => len - (intOf i).toNat)
  case atStart => exact ⟨0, 1, 0, by omega, rfl, Q0.out⟩
  case round =>
    clear Q0
    obtain ⟨x, st, k, hk, rfl, hq⟩ := hrel
    generalize w1.heap.size = gb at hq ⊢
    generalize w2.heap.size = go at hq ⊢
    by_cases hlt : x < len
    · obtain ⟨b0, off, rfl, hbl, hc⟩ := HA.out x hlt
      have hc0 : wr.cell? ⟨b0, off + x * 3, none⟩ = some (.int .i64 (F0 x)) := (hq.1.cell (p := ⟨b0, off + x * 3, none⟩) hbl).trans (hc 0 _ rfl)
      have hc1 : wr.cell? ⟨b0, off + x * 3 + 1, none⟩ = some (.int .i64 (F1 x)) := (hq.1.cell (p := ⟨b0, off + x * 3 + 1, none⟩) hbl).trans (hc 1 _ rfl)
      have hc2 : wr.cell? ⟨b0, off + x * 3 + 2, none⟩ = some (.bool (F2 x)) := (hq.1.cell (p := ⟨b0, off + x * 3 + 2, none⟩) hbl).trans (hc 2 _ rfl)
      clear hc HA
      obtain ⟨u1, u2⟩ := HB.out x hlt
      generalize F0 x = kd at *
      generalize F1 x = n at *
      generalize F2 x = bh at *
      have hv : 1 ≤ st ∧ st ≤ 4 := rc_v hq.2.2.2.2.2.2.1
      have HD := Lib.hid (hq.deed #[.int .i64 kd, .int .i64 n, .bool bh])
      clear hq
      go_wp2_with fail
      have m0 := Int.emod_nonneg kd (b := 4) (by omega)
      have m1 := Int.emod_lt_of_pos kd (b := 4) (by omega)
      refine (bring_any _ _ _ u1 u2 (by omega) (by omega)).mono ?_; rintro e w' ⟨rfl, rfl⟩
      clear hc0 hc1 hc2
      have hd := HD.out
      clear HD
      have d0 := hd.d0
      have d1 := hd.d1
      have d2 := hd.d2
      generalize wr.heap.size = q at *
      generalize wr.alloc _ = W1 at *
      generalize kd % 4 = v at *
      clear u1 u2
      obtain rfl | rfl | rfl | rfl : v = 0 ∨ v = 1 ∨ v = 2 ∨ v = 3 := by omega
      · obtain ⟨r, st', k', hr⟩ : ∃ r st' k', Go.Proofs.Ytklpgegooakfjaa.wr st k n = (r, st', k') := ⟨_, _, _, rfl⟩
        have HR := Lib.hid hr; clear hr
        go_wp2_with fail
        have hs0 := hd.drew
        clear hd d0 d1 d2
        have hS0 := hs0.d1
        refine region_seq [(0, true), (1, true), (2, true), (4, true), (5, true), (6, true), (3, false), (7, false), (8, true), (9, true)] (fun w1 => w1.cell? ⟨q, 1, none⟩ = some (.int .i64 n)) (by kernel_rfl) (by kernel_rfl) (Nat.le_of_eq (by kernel_rfl)) (by kernel_rfl) (fun _ _ _ _ _ h => h) ?_
        refine seq_take (by rfl) (by rfl) hS0 (v := ?_) ?_ ?_
        rotate_left
        · intro w1 hSw; (try dsimp only at hSw); simp only [List.getElem_toArray, List.getElem_cons_zero]; (try go_simp); try with_reducible rfl
        simp only [Act.put, List.getElem_toArray, List.getElem_cons_zero, List.setIfInBounds_toArray, List.set_cons_zero, List.set_cons_succ]
        refine seq_take (by rfl) (by rfl) hS0 (v := ?_) ?_ ?_
        rotate_left
        · intro w1 hSw; (try dsimp only at hSw); simp only [List.getElem_toArray, List.getElem_cons_zero, List.getElem_cons_succ]; (try go_simp); try with_reducible rfl
        simp only [Act.put, List.getElem_toArray, List.getElem_cons_zero, List.getElem_cons_succ, List.setIfInBounds_toArray, List.set_cons_zero, List.set_cons_succ]
        refine seq_take (by rfl) (by rfl) hS0 (v := ?_) ?_ ?_
        rotate_left
        · intro w1 hSw; (try dsimp only at hSw); simp only [List.getElem_toArray, List.getElem_cons_zero, List.getElem_cons_succ]; (try go_simp); try with_reducible rfl
        simp only [Act.put, List.getElem_toArray, List.getElem_cons_zero, List.getElem_cons_succ, List.setIfInBounds_toArray, List.set_cons_zero, List.set_cons_succ]
        refine seq_take (by rfl) (by rfl) hS0 (v := ?_) ?_ ?_
        rotate_left
        · intro w1 hSw; (try dsimp only at hSw); simp only [List.getElem_toArray, List.getElem_cons_zero, List.getElem_cons_succ]; (try go_simp); try with_reducible rfl
        simp only [Act.put, List.getElem_toArray, List.getElem_cons_zero, List.getElem_cons_succ, List.setIfInBounds_toArray, List.set_cons_zero, List.set_cons_succ]
        refine seq_take (by rfl) (by rfl) hS0 (v := ?_) ?_ ?_
        rotate_left
        · intro w1 hSw; (try dsimp only at hSw); simp only [List.getElem_toArray, List.getElem_cons_zero, List.getElem_cons_succ]; (try go_simp); try with_reducible rfl
        simp only [Act.put, List.getElem_toArray, List.getElem_cons_zero, List.getElem_cons_succ, List.setIfInBounds_toArray, List.set_cons_zero, List.set_cons_succ]
        refine seq_take (by rfl) (by rfl) hS0 (v := ?_) ?_ ?_
        rotate_left
        · intro w1 hSw; (try dsimp only at hSw); simp only [List.getElem_toArray, List.getElem_cons_zero, List.getElem_cons_succ]; (try go_simp); try with_reducible rfl
        simp only [Act.put, List.getElem_toArray, List.getElem_cons_zero, List.getElem_cons_succ, List.setIfInBounds_toArray, List.set_cons_zero, List.set_cons_succ]
        refine seq_call (by rfl) (by rfl) ?_
        intro K hK
        simp only [List.getElem_toArray, List.getElem_cons_zero, List.getElem_cons_succ]
        go_simp
        refine (writeA n r HR.out hv hs0).mono ?_; rintro e w1 ⟨rfl, hs1⟩
        refine hK _ _ (hs1.d1) ?_
        have hS0 := hs1.d1
        clear hK K hs0
        refine seq_call (by rfl) (by rfl) ?_
        intro K hK
        simp only [List.getElem_toArray, List.getElem_cons_zero, List.getElem_cons_succ]
        go_simp
        refine (writeR n r HR.out hs1).mono ?_; rintro e w1 ⟨rfl, hs2⟩
        refine hK _ _ (hs2.d1) ?_
        have hS0 := hs2.d1
        clear hK K hs1
        refine seq_take (by rfl) (by rfl) hS0 (v := ?_) ?_ ?_
        rotate_left
        · intro w1 hSw; (try dsimp only at hSw); simp only [List.getElem_toArray, List.getElem_cons_zero, List.getElem_cons_succ]; (try go_simp); try with_reducible rfl
        simp only [Act.put, List.getElem_toArray, List.getElem_cons_zero, List.getElem_cons_succ, List.setIfInBounds_toArray, List.set_cons_zero, List.set_cons_succ]
        refine seq_take (by rfl) (by rfl) hS0 (v := ?_) ?_ ?_
        rotate_left
        · intro w1 hSw; (try dsimp only at hSw); simp only [List.getElem_toArray, List.getElem_cons_zero, List.getElem_cons_succ]; (try go_simp); try with_reducible rfl
        simp only [Act.put, List.getElem_toArray, List.getElem_cons_zero, List.getElem_cons_succ, List.setIfInBounds_toArray, List.set_cons_zero, List.set_cons_succ]
        refine seq_done ?_
        clear hS0
        go_wp2_with fail
        obtain ⟨dn, hdn⟩ : ∃ r, (st' == 4) = r := ⟨_, rfl⟩
        have HDN := Lib.hid hdn; clear hdn
        have hz := hs2.drew
        clear hs2
        have hS0 := rc_cells hz.1.2.2.2.2.2.2.1 HDN.out
        refine region_seq [(0, true), (1, true), (2, true), (3, true), (4, true), (6, true), (7, true), (8, true), (9, true), (5, false), (10, true), (11, true), (12, true), (13, true), (15, true), (16, true), (17, true), (18, true), (14, false), (19, true), (20, true)] (fun w1 => w1.cell? ⟨gb, 0, none⟩ = some (.int .i64 k') ∧ w1.cell? ⟨gb, 1, none⟩ = some (.bool dn)) (by kernel_rfl) (by kernel_rfl) (Nat.le_of_eq (by kernel_rfl)) (by kernel_rfl) (fun _ _ _ _ _ h => h) ?_
        refine seq_take (by rfl) (by rfl) hS0 (v := ?_) ?_ ?_
        rotate_left
        · intro w1 hSw; (try dsimp only at hSw); simp only [List.getElem_toArray, List.getElem_cons_zero]; (try go_simp); try with_reducible rfl
        simp only [Act.put, List.getElem_toArray, List.getElem_cons_zero, List.setIfInBounds_toArray, List.set_cons_zero, List.set_cons_succ]
        refine seq_take (by rfl) (by rfl) hS0 (v := ?_) ?_ ?_
        rotate_left
        · intro w1 hSw; (try dsimp only at hSw); simp only [List.getElem_toArray, List.getElem_cons_zero, List.getElem_cons_succ]; (try go_simp); try with_reducible rfl
        simp only [Act.put, List.getElem_toArray, List.getElem_cons_zero, List.getElem_cons_succ, List.setIfInBounds_toArray, List.set_cons_zero, List.set_cons_succ]
        refine seq_take (by rfl) (by rfl) hS0 (v := ?_) ?_ ?_
        rotate_left
        · intro w1 hSw; (try dsimp only at hSw); simp only [List.getElem_toArray, List.getElem_cons_zero, List.getElem_cons_succ]; (try go_simp); try with_reducible rfl
        simp only [Act.put, List.getElem_toArray, List.getElem_cons_zero, List.getElem_cons_succ, List.setIfInBounds_toArray, List.set_cons_zero, List.set_cons_succ]
        refine seq_take (by rfl) (by rfl) hS0 (v := ?_) ?_ ?_
        rotate_left
        · intro w1 hSw; (try dsimp only at hSw); simp only [List.getElem_toArray, List.getElem_cons_zero, List.getElem_cons_succ]; (try go_simp); try with_reducible rfl
        simp only [Act.put, List.getElem_toArray, List.getElem_cons_zero, List.getElem_cons_succ, List.setIfInBounds_toArray, List.set_cons_zero, List.set_cons_succ]
        refine seq_take (by rfl) (by rfl) hS0 (v := ?_) ?_ ?_
        rotate_left
        · intro w1 hSw; (try dsimp only at hSw); simp only [List.getElem_toArray, List.getElem_cons_zero, List.getElem_cons_succ]; (try go_simp); try with_reducible rfl
        simp only [Act.put, List.getElem_toArray, List.getElem_cons_zero, List.getElem_cons_succ, List.setIfInBounds_toArray, List.set_cons_zero, List.set_cons_succ]
        refine seq_take (by rfl) (by rfl) hS0 (v := ?_) ?_ ?_
        rotate_left
        · intro w1 hSw; (try dsimp only at hSw); simp only [List.getElem_toArray, List.getElem_cons_zero, List.getElem_cons_succ]; (try go_simp); try with_reducible rfl
        simp only [Act.put, List.getElem_toArray, List.getElem_cons_zero, List.getElem_cons_succ, List.setIfInBounds_toArray, List.set_cons_zero, List.set_cons_succ]
        refine seq_take (by rfl) (by rfl) hS0 (v := ?_) ?_ ?_
        rotate_left
        · intro w1 hSw; (try dsimp only at hSw); simp only [List.getElem_toArray, List.getElem_cons_zero, List.getElem_cons_succ]; (try go_simp); try with_reducible rfl
        simp only [Act.put, List.getElem_toArray, List.getElem_cons_zero, List.getElem_cons_succ, List.setIfInBounds_toArray, List.set_cons_zero, List.set_cons_succ]
        refine seq_take (by rfl) (by rfl) hS0 (v := ?_) ?_ ?_
        rotate_left
        · intro w1 hSw; (try dsimp only at hSw); simp only [List.getElem_toArray, List.getElem_cons_zero, List.getElem_cons_succ]; (try go_simp); try with_reducible rfl
        simp only [Act.put, List.getElem_toArray, List.getElem_cons_zero, List.getElem_cons_succ, List.setIfInBounds_toArray, List.set_cons_zero, List.set_cons_succ]
        refine seq_take (by rfl) (by rfl) hS0 (v := ?_) ?_ ?_
        rotate_left
        · intro w1 hSw; (try dsimp only at hSw); simp only [List.getElem_toArray, List.getElem_cons_zero, List.getElem_cons_succ]; (try go_simp); try with_reducible rfl
        simp only [Act.put, List.getElem_toArray, List.getElem_cons_zero, List.getElem_cons_succ, List.setIfInBounds_toArray, List.set_cons_zero, List.set_cons_succ]
        refine seq_call (by rfl) (by rfl) ?_
        intro K hK
        simp only [List.getElem_toArray, List.getElem_cons_zero, List.getElem_cons_succ]
        go_simp
        refine (readA hz).mono ?_; rintro e w1 ⟨rfl, rfl⟩
        refine hK _ _ hS0 ?_
        clear hK K
        refine seq_take (by rfl) (by rfl) hS0 (v := ?_) ?_ ?_
        rotate_left
        · intro w1 hSw; (try dsimp only at hSw); simp only [List.getElem_toArray, List.getElem_cons_zero, List.getElem_cons_succ]; (try go_simp); try with_reducible rfl
        simp only [Act.put, List.getElem_toArray, List.getElem_cons_zero, List.getElem_cons_succ, List.setIfInBounds_toArray, List.set_cons_zero, List.set_cons_succ]
        refine seq_take (by rfl) (by rfl) hS0 (v := ?_) ?_ ?_
        rotate_left
        · intro w1 hSw; (try dsimp only at hSw); simp only [List.getElem_toArray, List.getElem_cons_zero, List.getElem_cons_succ]; (try go_simp); try with_reducible rfl
        simp only [Act.put, List.getElem_toArray, List.getElem_cons_zero, List.getElem_cons_succ, List.setIfInBounds_toArray, List.set_cons_zero, List.set_cons_succ]
        refine seq_take (by rfl) (by rfl) hS0 (v := ?_) ?_ ?_
        rotate_left
        · intro w1 hSw; (try dsimp only at hSw); simp only [List.getElem_toArray, List.getElem_cons_zero, List.getElem_cons_succ]; (try go_simp); try with_reducible rfl
        simp only [Act.put, List.getElem_toArray, List.getElem_cons_zero, List.getElem_cons_succ, List.setIfInBounds_toArray, List.set_cons_zero, List.set_cons_succ]
        refine seq_take (by rfl) (by rfl) hS0 (v := ?_) ?_ ?_
        rotate_left
        · intro w1 hSw; (try dsimp only at hSw); simp only [List.getElem_toArray, List.getElem_cons_zero, List.getElem_cons_succ]; (try go_simp); try with_reducible rfl
        simp only [Act.put, List.getElem_toArray, List.getElem_cons_zero, List.getElem_cons_succ, List.setIfInBounds_toArray, List.set_cons_zero, List.set_cons_succ]
        refine seq_take (by rfl) (by rfl) hS0 (v := ?_) ?_ ?_
        rotate_left
        · intro w1 hSw; (try dsimp only at hSw); simp only [List.getElem_toArray, List.getElem_cons_zero, List.getElem_cons_succ]; (try go_simp); try with_reducible rfl
        simp only [Act.put, List.getElem_toArray, List.getElem_cons_zero, List.getElem_cons_succ, List.setIfInBounds_toArray, List.set_cons_zero, List.set_cons_succ]
        refine seq_take (by rfl) (by rfl) hS0 (v := ?_) ?_ ?_
        rotate_left
        · intro w1 hSw; (try dsimp only at hSw); simp only [List.getElem_toArray, List.getElem_cons_zero, List.getElem_cons_succ]; (try go_simp); try with_reducible rfl
        simp only [Act.put, List.getElem_toArray, List.getElem_cons_zero, List.getElem_cons_succ, List.setIfInBounds_toArray, List.set_cons_zero, List.set_cons_succ]
        refine seq_take (by rfl) (by rfl) hS0 (v := ?_) ?_ ?_
        rotate_left
        · intro w1 hSw; (try dsimp only at hSw); simp only [List.getElem_toArray, List.getElem_cons_zero, List.getElem_cons_succ]; (try go_simp); try with_reducible rfl
        simp only [Act.put, List.getElem_toArray, List.getElem_cons_zero, List.getElem_cons_succ, List.setIfInBounds_toArray, List.set_cons_zero, List.set_cons_succ]
        refine seq_take (by rfl) (by rfl) hS0 (v := ?_) ?_ ?_
        rotate_left
        · intro w1 hSw; (try dsimp only at hSw); simp only [List.getElem_toArray, List.getElem_cons_zero, List.getElem_cons_succ]; (try go_simp); try with_reducible rfl
        simp only [Act.put, List.getElem_toArray, List.getElem_cons_zero, List.getElem_cons_succ, List.setIfInBounds_toArray, List.set_cons_zero, List.set_cons_succ]
        refine seq_call (by rfl) (by rfl) ?_
        intro K hK
        simp only [List.getElem_toArray, List.getElem_cons_zero, List.getElem_cons_succ]
        go_simp
        refine (downA dn HDN.out hz).mono ?_; rintro e w1 ⟨rfl, rfl⟩
        refine hK _ _ hS0 ?_
        clear hK K
        refine seq_take (by rfl) (by rfl) hS0 (v := ?_) ?_ ?_
        rotate_left
        · intro w1 hSw; (try dsimp only at hSw); simp only [List.getElem_toArray, List.getElem_cons_zero, List.getElem_cons_succ]; (try go_simp); try with_reducible rfl
        simp only [Act.put, List.getElem_toArray, List.getElem_cons_zero, List.getElem_cons_succ, List.setIfInBounds_toArray, List.set_cons_zero, List.set_cons_succ]
        refine seq_take (by rfl) (by rfl) hS0 (v := ?_) ?_ ?_
        rotate_left
        · intro w1 hSw; (try dsimp only at hSw); simp only [List.getElem_toArray, List.getElem_cons_zero, List.getElem_cons_succ]; (try go_simp); try with_reducible rfl
        simp only [Act.put, List.getElem_toArray, List.getElem_cons_zero, List.getElem_cons_succ, List.setIfInBounds_toArray, List.set_cons_zero, List.set_cons_succ]
        refine seq_done ?_
        clear hS0
        go_wp2_with fail
        go_roundw
        case rel => exact ⟨x + 1, st', k', by omega, by go_num, hz.1⟩
        case measure => simp [intOf]; omega
      · obtain ⟨r, st', k', hr⟩ : ∃ r st' k', Go.Proofs.Ytklpgegooakfjaa.wr st k n = (r, st', k') := ⟨_, _, _, rfl⟩
        have HR := Lib.hid hr; clear hr
        go_wp2_with fail
        have hs0 := hd.drew
        clear hd d0 d1 d2
        have hS0 := hs0.d1
        refine region_seq [(0, true), (1, true), (2, true), (4, true), (5, true), (6, true), (3, false), (7, false), (8, true), (9, true)] (fun w1 => w1.cell? ⟨q, 1, none⟩ = some (.int .i64 n)) (by kernel_rfl) (by kernel_rfl) (Nat.le_of_eq (by kernel_rfl)) (by kernel_rfl) (fun _ _ _ _ _ h => h) ?_
        refine seq_take (by rfl) (by rfl) hS0 (v := ?_) ?_ ?_
        rotate_left
        · intro w1 hSw; (try dsimp only at hSw); simp only [List.getElem_toArray, List.getElem_cons_zero]; (try go_simp); try with_reducible rfl
        simp only [Act.put, List.getElem_toArray, List.getElem_cons_zero, List.setIfInBounds_toArray, List.set_cons_zero, List.set_cons_succ]
        refine seq_take (by rfl) (by rfl) hS0 (v := ?_) ?_ ?_
        rotate_left
        · intro w1 hSw; (try dsimp only at hSw); simp only [List.getElem_toArray, List.getElem_cons_zero, List.getElem_cons_succ]; (try go_simp); try with_reducible rfl
        simp only [Act.put, List.getElem_toArray, List.getElem_cons_zero, List.getElem_cons_succ, List.setIfInBounds_toArray, List.set_cons_zero, List.set_cons_succ]
        refine seq_take (by rfl) (by rfl) hS0 (v := ?_) ?_ ?_
        rotate_left
        · intro w1 hSw; (try dsimp only at hSw); simp only [List.getElem_toArray, List.getElem_cons_zero, List.getElem_cons_succ]; (try go_simp); try with_reducible rfl
        simp only [Act.put, List.getElem_toArray, List.getElem_cons_zero, List.getElem_cons_succ, List.setIfInBounds_toArray, List.set_cons_zero, List.set_cons_succ]
        refine seq_take (by rfl) (by rfl) hS0 (v := ?_) ?_ ?_
        rotate_left
        · intro w1 hSw; (try dsimp only at hSw); simp only [List.getElem_toArray, List.getElem_cons_zero, List.getElem_cons_succ]; (try go_simp); try with_reducible rfl
        simp only [Act.put, List.getElem_toArray, List.getElem_cons_zero, List.getElem_cons_succ, List.setIfInBounds_toArray, List.set_cons_zero, List.set_cons_succ]
        refine seq_take (by rfl) (by rfl) hS0 (v := ?_) ?_ ?_
        rotate_left
        · intro w1 hSw; (try dsimp only at hSw); simp only [List.getElem_toArray, List.getElem_cons_zero, List.getElem_cons_succ]; (try go_simp); try with_reducible rfl
        simp only [Act.put, List.getElem_toArray, List.getElem_cons_zero, List.getElem_cons_succ, List.setIfInBounds_toArray, List.set_cons_zero, List.set_cons_succ]
        refine seq_take (by rfl) (by rfl) hS0 (v := ?_) ?_ ?_
        rotate_left
        · intro w1 hSw; (try dsimp only at hSw); simp only [List.getElem_toArray, List.getElem_cons_zero, List.getElem_cons_succ]; (try go_simp); try with_reducible rfl
        simp only [Act.put, List.getElem_toArray, List.getElem_cons_zero, List.getElem_cons_succ, List.setIfInBounds_toArray, List.set_cons_zero, List.set_cons_succ]
        refine seq_call (by rfl) (by rfl) ?_
        intro K hK
        simp only [List.getElem_toArray, List.getElem_cons_zero, List.getElem_cons_succ]
        go_simp
        refine (writeA n r HR.out hv hs0).mono ?_; rintro e w1 ⟨rfl, hs1⟩
        refine hK _ _ (hs1.d1) ?_
        have hS0 := hs1.d1
        clear hK K hs0
        refine seq_call (by rfl) (by rfl) ?_
        intro K hK
        simp only [List.getElem_toArray, List.getElem_cons_zero, List.getElem_cons_succ]
        go_simp
        refine (writeR n r HR.out hs1).mono ?_; rintro e w1 ⟨rfl, hs2⟩
        refine hK _ _ (hs2.d1) ?_
        have hS0 := hs2.d1
        clear hK K hs1
        refine seq_take (by rfl) (by rfl) hS0 (v := ?_) ?_ ?_
        rotate_left
        · intro w1 hSw; (try dsimp only at hSw); simp only [List.getElem_toArray, List.getElem_cons_zero, List.getElem_cons_succ]; (try go_simp); try with_reducible rfl
        simp only [Act.put, List.getElem_toArray, List.getElem_cons_zero, List.getElem_cons_succ, List.setIfInBounds_toArray, List.set_cons_zero, List.set_cons_succ]
        refine seq_take (by rfl) (by rfl) hS0 (v := ?_) ?_ ?_
        rotate_left
        · intro w1 hSw; (try dsimp only at hSw); simp only [List.getElem_toArray, List.getElem_cons_zero, List.getElem_cons_succ]; (try go_simp); try with_reducible rfl
        simp only [Act.put, List.getElem_toArray, List.getElem_cons_zero, List.getElem_cons_succ, List.setIfInBounds_toArray, List.set_cons_zero, List.set_cons_succ]
        refine seq_done ?_
        clear hS0
        go_wp2_with fail
        obtain ⟨dn, hdn⟩ : ∃ r, (st' == 4) = r := ⟨_, rfl⟩
        have HDN := Lib.hid hdn; clear hdn
        have hz := hs2.drew
        clear hs2
        have hS0 := rc_cells hz.1.2.2.2.2.2.2.1 HDN.out
        refine region_seq [(0, true), (1, true), (2, true), (3, true), (4, true), (6, true), (7, true), (8, true), (9, true), (5, false), (10, true), (11, true), (12, true), (13, true), (15, true), (16, true), (17, true), (18, true), (14, false), (19, true), (20, true)] (fun w1 => w1.cell? ⟨gb, 0, none⟩ = some (.int .i64 k') ∧ w1.cell? ⟨gb, 1, none⟩ = some (.bool dn)) (by kernel_rfl) (by kernel_rfl) (Nat.le_of_eq (by kernel_rfl)) (by kernel_rfl) (fun _ _ _ _ _ h => h) ?_
        refine seq_take (by rfl) (by rfl) hS0 (v := ?_) ?_ ?_
        rotate_left
        · intro w1 hSw; (try dsimp only at hSw); simp only [List.getElem_toArray, List.getElem_cons_zero]; (try go_simp); try with_reducible rfl
        simp only [Act.put, List.getElem_toArray, List.getElem_cons_zero, List.setIfInBounds_toArray, List.set_cons_zero, List.set_cons_succ]
        refine seq_take (by rfl) (by rfl) hS0 (v := ?_) ?_ ?_
        rotate_left
        · intro w1 hSw; (try dsimp only at hSw); simp only [List.getElem_toArray, List.getElem_cons_zero, List.getElem_cons_succ]; (try go_simp); try with_reducible rfl
        simp only [Act.put, List.getElem_toArray, List.getElem_cons_zero, List.getElem_cons_succ, List.setIfInBounds_toArray, List.set_cons_zero, List.set_cons_succ]
        refine seq_take (by rfl) (by rfl) hS0 (v := ?_) ?_ ?_
        rotate_left
        · intro w1 hSw; (try dsimp only at hSw); simp only [List.getElem_toArray, List.getElem_cons_zero, List.getElem_cons_succ]; (try go_simp); try with_reducible rfl
        simp only [Act.put, List.getElem_toArray, List.getElem_cons_zero, List.getElem_cons_succ, List.setIfInBounds_toArray, List.set_cons_zero, List.set_cons_succ]
        refine seq_take (by rfl) (by rfl) hS0 (v := ?_) ?_ ?_
        rotate_left
        · intro w1 hSw; (try dsimp only at hSw); simp only [List.getElem_toArray, List.getElem_cons_zero, List.getElem_cons_succ]; (try go_simp); try with_reducible rfl
        simp only [Act.put, List.getElem_toArray, List.getElem_cons_zero, List.getElem_cons_succ, List.setIfInBounds_toArray, List.set_cons_zero, List.set_cons_succ]
        refine seq_take (by rfl) (by rfl) hS0 (v := ?_) ?_ ?_
        rotate_left
        · intro w1 hSw; (try dsimp only at hSw); simp only [List.getElem_toArray, List.getElem_cons_zero, List.getElem_cons_succ]; (try go_simp); try with_reducible rfl
        simp only [Act.put, List.getElem_toArray, List.getElem_cons_zero, List.getElem_cons_succ, List.setIfInBounds_toArray, List.set_cons_zero, List.set_cons_succ]
        refine seq_take (by rfl) (by rfl) hS0 (v := ?_) ?_ ?_
        rotate_left
        · intro w1 hSw; (try dsimp only at hSw); simp only [List.getElem_toArray, List.getElem_cons_zero, List.getElem_cons_succ]; (try go_simp); try with_reducible rfl
        simp only [Act.put, List.getElem_toArray, List.getElem_cons_zero, List.getElem_cons_succ, List.setIfInBounds_toArray, List.set_cons_zero, List.set_cons_succ]
        refine seq_take (by rfl) (by rfl) hS0 (v := ?_) ?_ ?_
        rotate_left
        · intro w1 hSw; (try dsimp only at hSw); simp only [List.getElem_toArray, List.getElem_cons_zero, List.getElem_cons_succ]; (try go_simp); try with_reducible rfl
        simp only [Act.put, List.getElem_toArray, List.getElem_cons_zero, List.getElem_cons_succ, List.setIfInBounds_toArray, List.set_cons_zero, List.set_cons_succ]
        refine seq_take (by rfl) (by rfl) hS0 (v := ?_) ?_ ?_
        rotate_left
        · intro w1 hSw; (try dsimp only at hSw); simp only [List.getElem_toArray, List.getElem_cons_zero, List.getElem_cons_succ]; (try go_simp); try with_reducible rfl
        simp only [Act.put, List.getElem_toArray, List.getElem_cons_zero, List.getElem_cons_succ, List.setIfInBounds_toArray, List.set_cons_zero, List.set_cons_succ]
        refine seq_take (by rfl) (by rfl) hS0 (v := ?_) ?_ ?_
        rotate_left
        · intro w1 hSw; (try dsimp only at hSw); simp only [List.getElem_toArray, List.getElem_cons_zero, List.getElem_cons_succ]; (try go_simp); try with_reducible rfl
        simp only [Act.put, List.getElem_toArray, List.getElem_cons_zero, List.getElem_cons_succ, List.setIfInBounds_toArray, List.set_cons_zero, List.set_cons_succ]
        refine seq_call (by rfl) (by rfl) ?_
        intro K hK
        simp only [List.getElem_toArray, List.getElem_cons_zero, List.getElem_cons_succ]
        go_simp
        refine (readA hz).mono ?_; rintro e w1 ⟨rfl, rfl⟩
        refine hK _ _ hS0 ?_
        clear hK K
        refine seq_take (by rfl) (by rfl) hS0 (v := ?_) ?_ ?_
        rotate_left
        · intro w1 hSw; (try dsimp only at hSw); simp only [List.getElem_toArray, List.getElem_cons_zero, List.getElem_cons_succ]; (try go_simp); try with_reducible rfl
        simp only [Act.put, List.getElem_toArray, List.getElem_cons_zero, List.getElem_cons_succ, List.setIfInBounds_toArray, List.set_cons_zero, List.set_cons_succ]
        refine seq_take (by rfl) (by rfl) hS0 (v := ?_) ?_ ?_
        rotate_left
        · intro w1 hSw; (try dsimp only at hSw); simp only [List.getElem_toArray, List.getElem_cons_zero, List.getElem_cons_succ]; (try go_simp); try with_reducible rfl
        simp only [Act.put, List.getElem_toArray, List.getElem_cons_zero, List.getElem_cons_succ, List.setIfInBounds_toArray, List.set_cons_zero, List.set_cons_succ]
        refine seq_take (by rfl) (by rfl) hS0 (v := ?_) ?_ ?_
        rotate_left
        · intro w1 hSw; (try dsimp only at hSw); simp only [List.getElem_toArray, List.getElem_cons_zero, List.getElem_cons_succ]; (try go_simp); try with_reducible rfl
        simp only [Act.put, List.getElem_toArray, List.getElem_cons_zero, List.getElem_cons_succ, List.setIfInBounds_toArray, List.set_cons_zero, List.set_cons_succ]
        refine seq_take (by rfl) (by rfl) hS0 (v := ?_) ?_ ?_
        rotate_left
        · intro w1 hSw; (try dsimp only at hSw); simp only [List.getElem_toArray, List.getElem_cons_zero, List.getElem_cons_succ]; (try go_simp); try with_reducible rfl
        simp only [Act.put, List.getElem_toArray, List.getElem_cons_zero, List.getElem_cons_succ, List.setIfInBounds_toArray, List.set_cons_zero, List.set_cons_succ]
        refine seq_take (by rfl) (by rfl) hS0 (v := ?_) ?_ ?_
        rotate_left
        · intro w1 hSw; (try dsimp only at hSw); simp only [List.getElem_toArray, List.getElem_cons_zero, List.getElem_cons_succ]; (try go_simp); try with_reducible rfl
        simp only [Act.put, List.getElem_toArray, List.getElem_cons_zero, List.getElem_cons_succ, List.setIfInBounds_toArray, List.set_cons_zero, List.set_cons_succ]
        refine seq_take (by rfl) (by rfl) hS0 (v := ?_) ?_ ?_
        rotate_left
        · intro w1 hSw; (try dsimp only at hSw); simp only [List.getElem_toArray, List.getElem_cons_zero, List.getElem_cons_succ]; (try go_simp); try with_reducible rfl
        simp only [Act.put, List.getElem_toArray, List.getElem_cons_zero, List.getElem_cons_succ, List.setIfInBounds_toArray, List.set_cons_zero, List.set_cons_succ]
        refine seq_take (by rfl) (by rfl) hS0 (v := ?_) ?_ ?_
        rotate_left
        · intro w1 hSw; (try dsimp only at hSw); simp only [List.getElem_toArray, List.getElem_cons_zero, List.getElem_cons_succ]; (try go_simp); try with_reducible rfl
        simp only [Act.put, List.getElem_toArray, List.getElem_cons_zero, List.getElem_cons_succ, List.setIfInBounds_toArray, List.set_cons_zero, List.set_cons_succ]
        refine seq_take (by rfl) (by rfl) hS0 (v := ?_) ?_ ?_
        rotate_left
        · intro w1 hSw; (try dsimp only at hSw); simp only [List.getElem_toArray, List.getElem_cons_zero, List.getElem_cons_succ]; (try go_simp); try with_reducible rfl
        simp only [Act.put, List.getElem_toArray, List.getElem_cons_zero, List.getElem_cons_succ, List.setIfInBounds_toArray, List.set_cons_zero, List.set_cons_succ]
        refine seq_call (by rfl) (by rfl) ?_
        intro K hK
        simp only [List.getElem_toArray, List.getElem_cons_zero, List.getElem_cons_succ]
        go_simp
        refine (downA dn HDN.out hz).mono ?_; rintro e w1 ⟨rfl, rfl⟩
        refine hK _ _ hS0 ?_
        clear hK K
        refine seq_take (by rfl) (by rfl) hS0 (v := ?_) ?_ ?_
        rotate_left
        · intro w1 hSw; (try dsimp only at hSw); simp only [List.getElem_toArray, List.getElem_cons_zero, List.getElem_cons_succ]; (try go_simp); try with_reducible rfl
        simp only [Act.put, List.getElem_toArray, List.getElem_cons_zero, List.getElem_cons_succ, List.setIfInBounds_toArray, List.set_cons_zero, List.set_cons_succ]
        refine seq_take (by rfl) (by rfl) hS0 (v := ?_) ?_ ?_
        rotate_left
        · intro w1 hSw; (try dsimp only at hSw); simp only [List.getElem_toArray, List.getElem_cons_zero, List.getElem_cons_succ]; (try go_simp); try with_reducible rfl
        simp only [Act.put, List.getElem_toArray, List.getElem_cons_zero, List.getElem_cons_succ, List.setIfInBounds_toArray, List.set_cons_zero, List.set_cons_succ]
        refine seq_done ?_
        clear hS0
        go_wp2_with fail
        go_roundw
        case rel => exact ⟨x + 1, st', k', by omega, by go_num, hz.1⟩
        case measure => simp [intOf]; omega
      · obtain ⟨r, st', hr⟩ : ∃ r st', cr st bh = (r, st') := ⟨_, _, rfl⟩
        have HR := Lib.hid hr; clear hr
        go_wp2_with fail
        have hs0 := hd.drew
        clear hd d0 d1 d2
        have hS0 := hs0.d2
        refine region_seq [(0, true), (1, true), (2, true), (4, true), (5, true), (6, true), (3, false), (7, false), (8, true), (9, true)] (fun w1 => w1.cell? ⟨q, 2, none⟩ = some (.bool bh)) (by kernel_rfl) (by kernel_rfl) (Nat.le_of_eq (by kernel_rfl)) (by kernel_rfl) (fun _ _ _ _ _ h => h) ?_
        refine seq_take (by rfl) (by rfl) hS0 (v := ?_) ?_ ?_
        rotate_left
        · intro w1 hSw; (try dsimp only at hSw); simp only [List.getElem_toArray, List.getElem_cons_zero]; (try go_simp); try with_reducible rfl
        simp only [Act.put, List.getElem_toArray, List.getElem_cons_zero, List.setIfInBounds_toArray, List.set_cons_zero, List.set_cons_succ]
        refine seq_take (by rfl) (by rfl) hS0 (v := ?_) ?_ ?_
        rotate_left
        · intro w1 hSw; (try dsimp only at hSw); simp only [List.getElem_toArray, List.getElem_cons_zero, List.getElem_cons_succ]; (try go_simp); try with_reducible rfl
        simp only [Act.put, List.getElem_toArray, List.getElem_cons_zero, List.getElem_cons_succ, List.setIfInBounds_toArray, List.set_cons_zero, List.set_cons_succ]
        refine seq_take (by rfl) (by rfl) hS0 (v := ?_) ?_ ?_
        rotate_left
        · intro w1 hSw; (try dsimp only at hSw); simp only [List.getElem_toArray, List.getElem_cons_zero, List.getElem_cons_succ]; (try go_simp); try with_reducible rfl
        simp only [Act.put, List.getElem_toArray, List.getElem_cons_zero, List.getElem_cons_succ, List.setIfInBounds_toArray, List.set_cons_zero, List.set_cons_succ]
        refine seq_take (by rfl) (by rfl) hS0 (v := ?_) ?_ ?_
        rotate_left
        · intro w1 hSw; (try dsimp only at hSw); simp only [List.getElem_toArray, List.getElem_cons_zero, List.getElem_cons_succ]; (try go_simp); try with_reducible rfl
        simp only [Act.put, List.getElem_toArray, List.getElem_cons_zero, List.getElem_cons_succ, List.setIfInBounds_toArray, List.set_cons_zero, List.set_cons_succ]
        refine seq_take (by rfl) (by rfl) hS0 (v := ?_) ?_ ?_
        rotate_left
        · intro w1 hSw; (try dsimp only at hSw); simp only [List.getElem_toArray, List.getElem_cons_zero, List.getElem_cons_succ]; (try go_simp); try with_reducible rfl
        simp only [Act.put, List.getElem_toArray, List.getElem_cons_zero, List.getElem_cons_succ, List.setIfInBounds_toArray, List.set_cons_zero, List.set_cons_succ]
        refine seq_take (by rfl) (by rfl) hS0 (v := ?_) ?_ ?_
        rotate_left
        · intro w1 hSw; (try dsimp only at hSw); simp only [List.getElem_toArray, List.getElem_cons_zero, List.getElem_cons_succ]; (try go_simp); try with_reducible rfl
        simp only [Act.put, List.getElem_toArray, List.getElem_cons_zero, List.getElem_cons_succ, List.setIfInBounds_toArray, List.set_cons_zero, List.set_cons_succ]
        refine seq_call (by rfl) (by rfl) ?_
        intro K hK
        simp only [List.getElem_toArray, List.getElem_cons_zero, List.getElem_cons_succ]
        go_simp
        refine (crashA bh r HR.out hv hs0).mono ?_; rintro e w1 ⟨rfl, hs1⟩
        refine hK _ _ (hs1.d2) ?_
        have hS0 := hs1.d2
        clear hK K hs0
        refine seq_call (by rfl) (by rfl) ?_
        intro K hK
        simp only [List.getElem_toArray, List.getElem_cons_zero, List.getElem_cons_succ]
        go_simp
        refine (crashR bh r HR.out hs1).mono ?_; rintro e w1 ⟨rfl, hs2⟩
        refine hK _ _ (hs2.d2) ?_
        have hS0 := hs2.d2
        clear hK K hs1
        refine seq_take (by rfl) (by rfl) hS0 (v := ?_) ?_ ?_
        rotate_left
        · intro w1 hSw; (try dsimp only at hSw); simp only [List.getElem_toArray, List.getElem_cons_zero, List.getElem_cons_succ]; (try go_simp); try with_reducible rfl
        simp only [Act.put, List.getElem_toArray, List.getElem_cons_zero, List.getElem_cons_succ, List.setIfInBounds_toArray, List.set_cons_zero, List.set_cons_succ]
        refine seq_take (by rfl) (by rfl) hS0 (v := ?_) ?_ ?_
        rotate_left
        · intro w1 hSw; (try dsimp only at hSw); simp only [List.getElem_toArray, List.getElem_cons_zero, List.getElem_cons_succ]; (try go_simp); try with_reducible rfl
        simp only [Act.put, List.getElem_toArray, List.getElem_cons_zero, List.getElem_cons_succ, List.setIfInBounds_toArray, List.set_cons_zero, List.set_cons_succ]
        refine seq_done ?_
        clear hS0
        go_wp2_with fail
        refine (writeO _ hs2).mono ?_; rintro e w' ⟨r9, rfl, hs3⟩; clear hs2
        go_wp2_with fail
        obtain ⟨dn, hdn⟩ : ∃ r, (st' == 4) = r := ⟨_, rfl⟩
        have HDN := Lib.hid hdn; clear hdn
        have hz := hs3.drew
        clear hs3
        have hS0 := rc_cells hz.1.2.2.2.2.2.2.1 HDN.out
        refine region_seq [(0, true), (1, true), (2, true), (3, true), (4, true), (6, true), (7, true), (8, true), (9, true), (5, false), (10, true), (11, true), (12, true), (13, true), (15, true), (16, true), (17, true), (18, true), (14, false), (19, true), (20, true)] (fun w1 => w1.cell? ⟨gb, 0, none⟩ = some (.int .i64 k) ∧ w1.cell? ⟨gb, 1, none⟩ = some (.bool dn)) (by kernel_rfl) (by kernel_rfl) (Nat.le_of_eq (by kernel_rfl)) (by kernel_rfl) (fun _ _ _ _ _ h => h) ?_
        refine seq_take (by rfl) (by rfl) hS0 (v := ?_) ?_ ?_
        rotate_left
        · intro w1 hSw; (try dsimp only at hSw); simp only [List.getElem_toArray, List.getElem_cons_zero]; (try go_simp); try with_reducible rfl
        simp only [Act.put, List.getElem_toArray, List.getElem_cons_zero, List.setIfInBounds_toArray, List.set_cons_zero, List.set_cons_succ]
        refine seq_take (by rfl) (by rfl) hS0 (v := ?_) ?_ ?_
        rotate_left
        · intro w1 hSw; (try dsimp only at hSw); simp only [List.getElem_toArray, List.getElem_cons_zero, List.getElem_cons_succ]; (try go_simp); try with_reducible rfl
        simp only [Act.put, List.getElem_toArray, List.getElem_cons_zero, List.getElem_cons_succ, List.setIfInBounds_toArray, List.set_cons_zero, List.set_cons_succ]
        refine seq_take (by rfl) (by rfl) hS0 (v := ?_) ?_ ?_
        rotate_left
        · intro w1 hSw; (try dsimp only at hSw); simp only [List.getElem_toArray, List.getElem_cons_zero, List.getElem_cons_succ]; (try go_simp); try with_reducible rfl
        simp only [Act.put, List.getElem_toArray, List.getElem_cons_zero, List.getElem_cons_succ, List.setIfInBounds_toArray, List.set_cons_zero, List.set_cons_succ]
        refine seq_take (by rfl) (by rfl) hS0 (v := ?_) ?_ ?_
        rotate_left
        · intro w1 hSw; (try dsimp only at hSw); simp only [List.getElem_toArray, List.getElem_cons_zero, List.getElem_cons_succ]; (try go_simp); try with_reducible rfl
        simp only [Act.put, List.getElem_toArray, List.getElem_cons_zero, List.getElem_cons_succ, List.setIfInBounds_toArray, List.set_cons_zero, List.set_cons_succ]
        refine seq_take (by rfl) (by rfl) hS0 (v := ?_) ?_ ?_
        rotate_left
        · intro w1 hSw; (try dsimp only at hSw); simp only [List.getElem_toArray, List.getElem_cons_zero, List.getElem_cons_succ]; (try go_simp); try with_reducible rfl
        simp only [Act.put, List.getElem_toArray, List.getElem_cons_zero, List.getElem_cons_succ, List.setIfInBounds_toArray, List.set_cons_zero, List.set_cons_succ]
        refine seq_take (by rfl) (by rfl) hS0 (v := ?_) ?_ ?_
        rotate_left
        · intro w1 hSw; (try dsimp only at hSw); simp only [List.getElem_toArray, List.getElem_cons_zero, List.getElem_cons_succ]; (try go_simp); try with_reducible rfl
        simp only [Act.put, List.getElem_toArray, List.getElem_cons_zero, List.getElem_cons_succ, List.setIfInBounds_toArray, List.set_cons_zero, List.set_cons_succ]
        refine seq_take (by rfl) (by rfl) hS0 (v := ?_) ?_ ?_
        rotate_left
        · intro w1 hSw; (try dsimp only at hSw); simp only [List.getElem_toArray, List.getElem_cons_zero, List.getElem_cons_succ]; (try go_simp); try with_reducible rfl
        simp only [Act.put, List.getElem_toArray, List.getElem_cons_zero, List.getElem_cons_succ, List.setIfInBounds_toArray, List.set_cons_zero, List.set_cons_succ]
        refine seq_take (by rfl) (by rfl) hS0 (v := ?_) ?_ ?_
        rotate_left
        · intro w1 hSw; (try dsimp only at hSw); simp only [List.getElem_toArray, List.getElem_cons_zero, List.getElem_cons_succ]; (try go_simp); try with_reducible rfl
        simp only [Act.put, List.getElem_toArray, List.getElem_cons_zero, List.getElem_cons_succ, List.setIfInBounds_toArray, List.set_cons_zero, List.set_cons_succ]
        refine seq_take (by rfl) (by rfl) hS0 (v := ?_) ?_ ?_
        rotate_left
        · intro w1 hSw; (try dsimp only at hSw); simp only [List.getElem_toArray, List.getElem_cons_zero, List.getElem_cons_succ]; (try go_simp); try with_reducible rfl
        simp only [Act.put, List.getElem_toArray, List.getElem_cons_zero, List.getElem_cons_succ, List.setIfInBounds_toArray, List.set_cons_zero, List.set_cons_succ]
        refine seq_call (by rfl) (by rfl) ?_
        intro K hK
        simp only [List.getElem_toArray, List.getElem_cons_zero, List.getElem_cons_succ]
        go_simp
        refine (readA hz).mono ?_; rintro e w1 ⟨rfl, rfl⟩
        refine hK _ _ hS0 ?_
        clear hK K
        refine seq_take (by rfl) (by rfl) hS0 (v := ?_) ?_ ?_
        rotate_left
        · intro w1 hSw; (try dsimp only at hSw); simp only [List.getElem_toArray, List.getElem_cons_zero, List.getElem_cons_succ]; (try go_simp); try with_reducible rfl
        simp only [Act.put, List.getElem_toArray, List.getElem_cons_zero, List.getElem_cons_succ, List.setIfInBounds_toArray, List.set_cons_zero, List.set_cons_succ]
        refine seq_take (by rfl) (by rfl) hS0 (v := ?_) ?_ ?_
        rotate_left
        · intro w1 hSw; (try dsimp only at hSw); simp only [List.getElem_toArray, List.getElem_cons_zero, List.getElem_cons_succ]; (try go_simp); try with_reducible rfl
        simp only [Act.put, List.getElem_toArray, List.getElem_cons_zero, List.getElem_cons_succ, List.setIfInBounds_toArray, List.set_cons_zero, List.set_cons_succ]
        refine seq_take (by rfl) (by rfl) hS0 (v := ?_) ?_ ?_
        rotate_left
        · intro w1 hSw; (try dsimp only at hSw); simp only [List.getElem_toArray, List.getElem_cons_zero, List.getElem_cons_succ]; (try go_simp); try with_reducible rfl
        simp only [Act.put, List.getElem_toArray, List.getElem_cons_zero, List.getElem_cons_succ, List.setIfInBounds_toArray, List.set_cons_zero, List.set_cons_succ]
        refine seq_take (by rfl) (by rfl) hS0 (v := ?_) ?_ ?_
        rotate_left
        · intro w1 hSw; (try dsimp only at hSw); simp only [List.getElem_toArray, List.getElem_cons_zero, List.getElem_cons_succ]; (try go_simp); try with_reducible rfl
        simp only [Act.put, List.getElem_toArray, List.getElem_cons_zero, List.getElem_cons_succ, List.setIfInBounds_toArray, List.set_cons_zero, List.set_cons_succ]
        refine seq_take (by rfl) (by rfl) hS0 (v := ?_) ?_ ?_
        rotate_left
        · intro w1 hSw; (try dsimp only at hSw); simp only [List.getElem_toArray, List.getElem_cons_zero, List.getElem_cons_succ]; (try go_simp); try with_reducible rfl
        simp only [Act.put, List.getElem_toArray, List.getElem_cons_zero, List.getElem_cons_succ, List.setIfInBounds_toArray, List.set_cons_zero, List.set_cons_succ]
        refine seq_take (by rfl) (by rfl) hS0 (v := ?_) ?_ ?_
        rotate_left
        · intro w1 hSw; (try dsimp only at hSw); simp only [List.getElem_toArray, List.getElem_cons_zero, List.getElem_cons_succ]; (try go_simp); try with_reducible rfl
        simp only [Act.put, List.getElem_toArray, List.getElem_cons_zero, List.getElem_cons_succ, List.setIfInBounds_toArray, List.set_cons_zero, List.set_cons_succ]
        refine seq_take (by rfl) (by rfl) hS0 (v := ?_) ?_ ?_
        rotate_left
        · intro w1 hSw; (try dsimp only at hSw); simp only [List.getElem_toArray, List.getElem_cons_zero, List.getElem_cons_succ]; (try go_simp); try with_reducible rfl
        simp only [Act.put, List.getElem_toArray, List.getElem_cons_zero, List.getElem_cons_succ, List.setIfInBounds_toArray, List.set_cons_zero, List.set_cons_succ]
        refine seq_take (by rfl) (by rfl) hS0 (v := ?_) ?_ ?_
        rotate_left
        · intro w1 hSw; (try dsimp only at hSw); simp only [List.getElem_toArray, List.getElem_cons_zero, List.getElem_cons_succ]; (try go_simp); try with_reducible rfl
        simp only [Act.put, List.getElem_toArray, List.getElem_cons_zero, List.getElem_cons_succ, List.setIfInBounds_toArray, List.set_cons_zero, List.set_cons_succ]
        refine seq_call (by rfl) (by rfl) ?_
        intro K hK
        simp only [List.getElem_toArray, List.getElem_cons_zero, List.getElem_cons_succ]
        go_simp
        refine (downA dn HDN.out hz).mono ?_; rintro e w1 ⟨rfl, rfl⟩
        refine hK _ _ hS0 ?_
        clear hK K
        refine seq_take (by rfl) (by rfl) hS0 (v := ?_) ?_ ?_
        rotate_left
        · intro w1 hSw; (try dsimp only at hSw); simp only [List.getElem_toArray, List.getElem_cons_zero, List.getElem_cons_succ]; (try go_simp); try with_reducible rfl
        simp only [Act.put, List.getElem_toArray, List.getElem_cons_zero, List.getElem_cons_succ, List.setIfInBounds_toArray, List.set_cons_zero, List.set_cons_succ]
        refine seq_take (by rfl) (by rfl) hS0 (v := ?_) ?_ ?_
        rotate_left
        · intro w1 hSw; (try dsimp only at hSw); simp only [List.getElem_toArray, List.getElem_cons_zero, List.getElem_cons_succ]; (try go_simp); try with_reducible rfl
        simp only [Act.put, List.getElem_toArray, List.getElem_cons_zero, List.getElem_cons_succ, List.setIfInBounds_toArray, List.set_cons_zero, List.set_cons_succ]
        refine seq_done ?_
        clear hS0
        go_wp2_with fail
        go_roundw
        case rel => exact ⟨x + 1, st', k, by omega, by go_num, hz.1⟩
        case measure => simp [intOf]; omega
      · obtain ⟨r, st', hr⟩ : ∃ r st', sr st = (r, st') := ⟨_, _, rfl⟩
        have HR := Lib.hid hr; clear hr
        go_wp2_with fail
        refine (startA r HR.out hv hd).mono ?_; rintro e w' ⟨rfl, hs1⟩; clear hd d0 d1 d2
        go_wp2_with fail
        refine (startR r HR.out hs1).mono ?_; rintro e w' ⟨rfl, hs2⟩; clear hs1
        go_wp2_with fail
        refine (crashO true hs2).mono ?_; rintro e w' ⟨r9, rfl, hs3⟩; clear hs2
        go_wp2_with fail
        obtain ⟨dn, hdn⟩ : ∃ r, (st' == 4) = r := ⟨_, rfl⟩
        have HDN := Lib.hid hdn; clear hdn
        have hz := hs3.drew
        clear hs3
        have hS0 := rc_cells hz.1.2.2.2.2.2.2.1 HDN.out
        refine region_seq [(0, true), (1, true), (2, true), (3, true), (4, true), (6, true), (7, true), (8, true), (9, true), (5, false), (10, true), (11, true), (12, true), (13, true), (15, true), (16, true), (17, true), (18, true), (14, false), (19, true), (20, true)] (fun w1 => w1.cell? ⟨gb, 0, none⟩ = some (.int .i64 k) ∧ w1.cell? ⟨gb, 1, none⟩ = some (.bool dn)) (by kernel_rfl) (by kernel_rfl) (Nat.le_of_eq (by kernel_rfl)) (by kernel_rfl) (fun _ _ _ _ _ h => h) ?_
        refine seq_take (by rfl) (by rfl) hS0 (v := ?_) ?_ ?_
        rotate_left
        · intro w1 hSw; (try dsimp only at hSw); simp only [List.getElem_toArray, List.getElem_cons_zero]; (try go_simp); try with_reducible rfl
        simp only [Act.put, List.getElem_toArray, List.getElem_cons_zero, List.setIfInBounds_toArray, List.set_cons_zero, List.set_cons_succ]
        refine seq_take (by rfl) (by rfl) hS0 (v := ?_) ?_ ?_
        rotate_left
        · intro w1 hSw; (try dsimp only at hSw); simp only [List.getElem_toArray, List.getElem_cons_zero, List.getElem_cons_succ]; (try go_simp); try with_reducible rfl
        simp only [Act.put, List.getElem_toArray, List.getElem_cons_zero, List.getElem_cons_succ, List.setIfInBounds_toArray, List.set_cons_zero, List.set_cons_succ]
        refine seq_take (by rfl) (by rfl) hS0 (v := ?_) ?_ ?_
        rotate_left
        · intro w1 hSw; (try dsimp only at hSw); simp only [List.getElem_toArray, List.getElem_cons_zero, List.getElem_cons_succ]; (try go_simp); try with_reducible rfl
        simp only [Act.put, List.getElem_toArray, List.getElem_cons_zero, List.getElem_cons_succ, List.setIfInBounds_toArray, List.set_cons_zero, List.set_cons_succ]
        refine seq_take (by rfl) (by rfl) hS0 (v := ?_) ?_ ?_
        rotate_left
        · intro w1 hSw; (try dsimp only at hSw); simp only [List.getElem_toArray, List.getElem_cons_zero, List.getElem_cons_succ]; (try go_simp); try with_reducible rfl
        simp only [Act.put, List.getElem_toArray, List.getElem_cons_zero, List.getElem_cons_succ, List.setIfInBounds_toArray, List.set_cons_zero, List.set_cons_succ]
        refine seq_take (by rfl) (by rfl) hS0 (v := ?_) ?_ ?_
        rotate_left
        · intro w1 hSw; (try dsimp only at hSw); simp only [List.getElem_toArray, List.getElem_cons_zero, List.getElem_cons_succ]; (try go_simp); try with_reducible rfl
        simp only [Act.put, List.getElem_toArray, List.getElem_cons_zero, List.getElem_cons_succ, List.setIfInBounds_toArray, List.set_cons_zero, List.set_cons_succ]
        refine seq_take (by rfl) (by rfl) hS0 (v := ?_) ?_ ?_
        rotate_left
        · intro w1 hSw; (try dsimp only at hSw); simp only [List.getElem_toArray, List.getElem_cons_zero, List.getElem_cons_succ]; (try go_simp); try with_reducible rfl
        simp only [Act.put, List.getElem_toArray, List.getElem_cons_zero, List.getElem_cons_succ, List.setIfInBounds_toArray, List.set_cons_zero, List.set_cons_succ]
        refine seq_take (by rfl) (by rfl) hS0 (v := ?_) ?_ ?_
        rotate_left
        · intro w1 hSw; (try dsimp only at hSw); simp only [List.getElem_toArray, List.getElem_cons_zero, List.getElem_cons_succ]; (try go_simp); try with_reducible rfl
        simp only [Act.put, List.getElem_toArray, List.getElem_cons_zero, List.getElem_cons_succ, List.setIfInBounds_toArray, List.set_cons_zero, List.set_cons_succ]
        refine seq_take (by rfl) (by rfl) hS0 (v := ?_) ?_ ?_
        rotate_left
        · intro w1 hSw; (try dsimp only at hSw); simp only [List.getElem_toArray, List.getElem_cons_zero, List.getElem_cons_succ]; (try go_simp); try with_reducible rfl
        simp only [Act.put, List.getElem_toArray, List.getElem_cons_zero, List.getElem_cons_succ, List.setIfInBounds_toArray, List.set_cons_zero, List.set_cons_succ]
        refine seq_take (by rfl) (by rfl) hS0 (v := ?_) ?_ ?_
        rotate_left
        · intro w1 hSw; (try dsimp only at hSw); simp only [List.getElem_toArray, List.getElem_cons_zero, List.getElem_cons_succ]; (try go_simp); try with_reducible rfl
        simp only [Act.put, List.getElem_toArray, List.getElem_cons_zero, List.getElem_cons_succ, List.setIfInBounds_toArray, List.set_cons_zero, List.set_cons_succ]
        refine seq_call (by rfl) (by rfl) ?_
        intro K hK
        simp only [List.getElem_toArray, List.getElem_cons_zero, List.getElem_cons_succ]
        go_simp
        refine (readA hz).mono ?_; rintro e w1 ⟨rfl, rfl⟩
        refine hK _ _ hS0 ?_
        clear hK K
        refine seq_take (by rfl) (by rfl) hS0 (v := ?_) ?_ ?_
        rotate_left
        · intro w1 hSw; (try dsimp only at hSw); simp only [List.getElem_toArray, List.getElem_cons_zero, List.getElem_cons_succ]; (try go_simp); try with_reducible rfl
        simp only [Act.put, List.getElem_toArray, List.getElem_cons_zero, List.getElem_cons_succ, List.setIfInBounds_toArray, List.set_cons_zero, List.set_cons_succ]
        refine seq_take (by rfl) (by rfl) hS0 (v := ?_) ?_ ?_
        rotate_left
        · intro w1 hSw; (try dsimp only at hSw); simp only [List.getElem_toArray, List.getElem_cons_zero, List.getElem_cons_succ]; (try go_simp); try with_reducible rfl
        simp only [Act.put, List.getElem_toArray, List.getElem_cons_zero, List.getElem_cons_succ, List.setIfInBounds_toArray, List.set_cons_zero, List.set_cons_succ]
        refine seq_take (by rfl) (by rfl) hS0 (v := ?_) ?_ ?_
        rotate_left
        · intro w1 hSw; (try dsimp only at hSw); simp only [List.getElem_toArray, List.getElem_cons_zero, List.getElem_cons_succ]; (try go_simp); try with_reducible rfl
        simp only [Act.put, List.getElem_toArray, List.getElem_cons_zero, List.getElem_cons_succ, List.setIfInBounds_toArray, List.set_cons_zero, List.set_cons_succ]
        refine seq_take (by rfl) (by rfl) hS0 (v := ?_) ?_ ?_
        rotate_left
        · intro w1 hSw; (try dsimp only at hSw); simp only [List.getElem_toArray, List.getElem_cons_zero, List.getElem_cons_succ]; (try go_simp); try with_reducible rfl
        simp only [Act.put, List.getElem_toArray, List.getElem_cons_zero, List.getElem_cons_succ, List.setIfInBounds_toArray, List.set_cons_zero, List.set_cons_succ]
        refine seq_take (by rfl) (by rfl) hS0 (v := ?_) ?_ ?_
        rotate_left
        · intro w1 hSw; (try dsimp only at hSw); simp only [List.getElem_toArray, List.getElem_cons_zero, List.getElem_cons_succ]; (try go_simp); try with_reducible rfl
        simp only [Act.put, List.getElem_toArray, List.getElem_cons_zero, List.getElem_cons_succ, List.setIfInBounds_toArray, List.set_cons_zero, List.set_cons_succ]
        refine seq_take (by rfl) (by rfl) hS0 (v := ?_) ?_ ?_
        rotate_left
        · intro w1 hSw; (try dsimp only at hSw); simp only [List.getElem_toArray, List.getElem_cons_zero, List.getElem_cons_succ]; (try go_simp); try with_reducible rfl
        simp only [Act.put, List.getElem_toArray, List.getElem_cons_zero, List.getElem_cons_succ, List.setIfInBounds_toArray, List.set_cons_zero, List.set_cons_succ]
        refine seq_take (by rfl) (by rfl) hS0 (v := ?_) ?_ ?_
        rotate_left
        · intro w1 hSw; (try dsimp only at hSw); simp only [List.getElem_toArray, List.getElem_cons_zero, List.getElem_cons_succ]; (try go_simp); try with_reducible rfl
        simp only [Act.put, List.getElem_toArray, List.getElem_cons_zero, List.getElem_cons_succ, List.setIfInBounds_toArray, List.set_cons_zero, List.set_cons_succ]
        refine seq_take (by rfl) (by rfl) hS0 (v := ?_) ?_ ?_
        rotate_left
        · intro w1 hSw; (try dsimp only at hSw); simp only [List.getElem_toArray, List.getElem_cons_zero, List.getElem_cons_succ]; (try go_simp); try with_reducible rfl
        simp only [Act.put, List.getElem_toArray, List.getElem_cons_zero, List.getElem_cons_succ, List.setIfInBounds_toArray, List.set_cons_zero, List.set_cons_succ]
        refine seq_call (by rfl) (by rfl) ?_
        intro K hK
        simp only [List.getElem_toArray, List.getElem_cons_zero, List.getElem_cons_succ]
        go_simp
        refine (downA dn HDN.out hz).mono ?_; rintro e w1 ⟨rfl, rfl⟩
        refine hK _ _ hS0 ?_
        clear hK K
        refine seq_take (by rfl) (by rfl) hS0 (v := ?_) ?_ ?_
        rotate_left
        · intro w1 hSw; (try dsimp only at hSw); simp only [List.getElem_toArray, List.getElem_cons_zero, List.getElem_cons_succ]; (try go_simp); try with_reducible rfl
        simp only [Act.put, List.getElem_toArray, List.getElem_cons_zero, List.getElem_cons_succ, List.setIfInBounds_toArray, List.set_cons_zero, List.set_cons_succ]
        refine seq_take (by rfl) (by rfl) hS0 (v := ?_) ?_ ?_
        rotate_left
        · intro w1 hSw; (try dsimp only at hSw); simp only [List.getElem_toArray, List.getElem_cons_zero, List.getElem_cons_succ]; (try go_simp); try with_reducible rfl
        simp only [Act.put, List.getElem_toArray, List.getElem_cons_zero, List.getElem_cons_succ, List.setIfInBounds_toArray, List.set_cons_zero, List.set_cons_succ]
        refine seq_done ?_
        clear hS0
        go_wp2_with fail
        go_roundw
        case rel => exact ⟨x + 1, st', k, by omega, by go_num, hz.1⟩
        case measure => simp [intOf]; omega
    · have hb := hq.1
      clear hq
      go_wp2_with fail
      refine (works_any _).mono ?_; rintro e w' ⟨rfl, hb1⟩
      go_wp2_with fail
      go_ret
      exact ⟨rfl, hb.trans (hb1.mono hb.size)⟩

set_option maxRecDepth 100000 in
theorem lifted (os : Os) (started : os.Started) (H : Type) (enc : TypeId × Value → H) :
    ReturnsInHanded {} Try.checked os 3 .any (Rows.cellDeedsSpec.pre6 enc Try.prog Try.f3 Rows.cellDeedsRow.domain false) (Rows.cellDeedsSpec.post enc Try.prog Try.f3 false true false false) := by
  refine returnsInHanded_of_change (C := Try.checked) own started (by kernel_rfl) Try.func3
    (ChangeSpec.witness6 (enc := enc) (C := Try.checked) false ⟨#[], #[.slice none 0 0], []⟩ 8 (by kernel_rfl) (by kernel_rfl) (by kernel_rfl) (by kernel_rfl)) ?_
  intro W base args ds gs before hval0 hW hcnd _
  have hval : ∀ (j : Nat) t v, Try.f3.params[j]? = some t → args[j]? = some v → Value.okWide Try.prog W .any base t v := hval0
  have hW' := hW
  obtain ⟨p, q, hA0, hV, rfl, hfz, hnd⟩ := hW
  have hA : DataW.TrodAll enc Try.prog W 0 (fun _ => true) true Try.f3.params.toList args.toList ds p := hA0
  rw [Try.params3] at hA hval
  obtain ⟨v0, vs0, d0, ds0, p0, q0, hargs, rfl, rfl, h0, r0⟩ := trodAll_cons hA
  obtain ⟨rfl, rfl, rfl⟩ := trodAll_nil r0
  obtain rfl : args = #[v0] := by cases args; simp_all
  obtain ⟨rfl, rfl⟩ := trodVars_none hV
  have k0 := h0
  have lt0 : ∀ x ∈ p0, x.block < W.heap.size := by obtain ⟨m, hm⟩ := k0; exact DataW.trod_lt m _ _ _ hm
  obtain ⟨s0, len0, cap0, rfl⟩ := okWide_slice Try.underlying22 (hval 0 22 v0 rfl rfl)
  obtain ⟨F0, F1, F2, hrd, hml, hwf⟩ := open_iib Try.underlying22 Try.underlying28 (by kernel_rfl) Try.underlying3 Try.underlying3 Try.underlying4 (by kernel_rfl) h0
  clear hA0 hval0
  refine (walk s0 len0 cap0 F0 F1 F2 W (by unfold maxLen at hml; omega) hrd (fun i hi => wf_bd (hwf i hi).1)).mono fun e W' ⟨he, bel⟩ => ?_
  subst he
  exact ⟨_, rfl, _, _, _, [], _, [], hW', trodAll_mk1 (shut_bool Try.underlying4 _), (trodAll_cons_mk (Below.trod laidOut (by kernel_rfl) (of_decide_eq_true (by kernel_rfl)) k0 bel lt0) trodAll_mk0), rfl, bel.frame _, fun h => by cases h⟩

theorem over : Rows.cellDeedsRow.holds Try.pinned (OpenSpec.ofChange Rows.cellDeedsSpec) :=
  OpenClaim.holds_of_wide 3 Try.f3 rfl rfl rfl rfl rfl rfl rfl ⟨rfl, rfl, rfl, rfl, rfl⟩ rfl rfl rfl rfl rfl (by kernel_rfl) Try.func3 (by kernel_rfl)
    (of_decide_eq_true (by kernel_rfl)) (by unfold Func.isWrapper; first | (rw [if_pos (by decide +kernel)]; kernel_rfl) | (rw [if_neg (by decide +kernel)]; exact ⟨rfl, rfl⟩))
    (fun os started H enc _ => lifted os started H enc)

theorem proved : Rows.CellDeedsSaid := over
#print axioms proved
end Go.Proofs.Ytklpgegooakfjaa.cellDeeds
