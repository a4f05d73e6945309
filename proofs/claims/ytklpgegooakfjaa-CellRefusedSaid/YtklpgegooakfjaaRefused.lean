/-
  hauberklaw07.CellRefused returns true for every l, and its argument reads as before. No condition.
  The frame (lifted, over, proved) is a print of a program, after the way of the seat's proof-skeleton.
-/
import Derived.Test.YtklpgegooakfjaaWorks
namespace Go.Proofs.Ytklpgegooakfjaa.cellRefused
open Go.ChangeShapes Go.WideShapes Go.ChangeAt Go.RowKit Go.Deep
set_option linter.unusedVariables false

/-- Two of the program's cells (blocks ga, gb), and the deed's copy in block q; what lay below ahead of them is as it was. -/
def W2 (w0 : World) (ga gb q : Nat) (st k st2 k2 : Int) (d : Array Value) (w : World) : Prop :=
  Below w0.heap.size w0 w ∧ w0.heap.size ≤ ga ∧ w0.heap.size ≤ gb ∧ ga ≠ gb ∧ Blk w ga 41 (cl st k) ∧ Blk w gb 41 (cl st2 k2) ∧ w0.heap.size ≤ q ∧ Blk w q 28 d
def P2 (w0 : World) (ga gb : Nat) (st k : Int) (w : World) : Prop :=
  Below w0.heap.size w0 w ∧ w0.heap.size ≤ ga ∧ w0.heap.size ≤ gb ∧ ga ≠ gb ∧ Blk w ga 41 (cl st k) ∧ Blk w gb 41 (cl st k) ∧ 1 ≤ st ∧ st ≤ 4
section
variable {w0 w w' : World} {ga gb q : Nat} {st k st2 k2 st' k' : Int} {d : Array Value}
theorem P2.deed (h : P2 w0 ga gb st k w) (d : Array Value) : W2 w0 ga gb w.heap.size st k st k d (w.alloc (.cells d 28)) :=
  ⟨h.1.alloc h.1.size _, h.2.1, h.2.2.1, h.2.2.2.1, h.2.2.2.2.1.alloc _, h.2.2.2.2.2.1.alloc _, h.1.size, Blk.new _ _ _⟩
theorem W2.back (h : W2 w0 ga gb q st k st k d w) (h1 : 1 ≤ st) (h2 : st ≤ 4) : P2 w0 ga gb st k w := ⟨h.1, h.2.1, h.2.2.1, h.2.2.2.1, h.2.2.2.2.1, h.2.2.2.2.2.1, h1, h2⟩
theorem W2.turnA (h : W2 w0 ga gb q st k st2 k2 d w) (hb : Blk w' ga 41 (cl st' k')) (hf : Fr ga w w') : W2 w0 ga gb q st' k' st2 k2 d w' := by
  obtain ⟨h1, h2, h3, h4, h5, h6, h7, h8⟩ := h
  exact ⟨h1.grown hf (by have := h1.size; omega) (fun j hj => by injection hj with hj; omega), h2, h3, h4, hb, h6.grown hf (fun e => h4 (by injection e with e; exact e.symm)), h7, h8.grown hf (fun e => h8.ne_ h5 (by decide) (by injection e))⟩
theorem W2.turnB (h : W2 w0 ga gb q st k st2 k2 d w) (hb : Blk w' gb 41 (cl st' k')) (hf : Fr gb w w') : W2 w0 ga gb q st k st' k' d w' := by
  obtain ⟨h1, h2, h3, h4, h5, h6, h7, h8⟩ := h
  exact ⟨h1.grown hf (by have := h1.size; omega) (fun j hj => by injection hj with hj; omega), h2, h3, h4, h5.grown hf (fun e => h4 (by injection e)), hb, h7, h8.grown hf (fun e => h8.ne_ h6 (by decide) (by injection e))⟩
theorem writeA (n r : Int) (hr : wr st k n = (r, st', k')) (hv : 1 ≤ st ∧ st ≤ 4) (h : W2 w0 ga gb q st k st2 k2 d w) : Calls Try.prog 10 #[.pointer (some ⟨ga, 0, none⟩), .int .i64 n] w fun e w' => e = .returned (.int .i64 r) ∧ W2 w0 ga gb q st' k' st2 k2 d w' :=
  (write_any ga st k n w (by omega) h.2.2.2.2.1).mono fun e w' ⟨he, hb, hf⟩ => by rw [hr] at he hb; exact ⟨he, h.turnA hb hf⟩
theorem writeB (n r : Int) (hr : wr st2 k2 n = (r, st', k')) (hv : 1 ≤ st2 ∧ st2 ≤ 4) (h : W2 w0 ga gb q st k st2 k2 d w) : Calls Try.prog 10 #[.pointer (some ⟨gb, 0, none⟩), .int .i64 n] w fun e w' => e = .returned (.int .i64 r) ∧ W2 w0 ga gb q st k st' k' d w' :=
  (write_any gb st2 k2 n w (by omega) h.2.2.2.2.2.1).mono fun e w' ⟨he, hb, hf⟩ => by rw [hr] at he hb; exact ⟨he, h.turnB hb hf⟩
theorem crashA (b : Bool) (r : Int) (hr : cr st b = (r, st')) (hv : 1 ≤ st ∧ st ≤ 4) (h : W2 w0 ga gb q st k st2 k2 d w) : Calls Try.prog 12 #[.pointer (some ⟨ga, 0, none⟩), .bool b] w fun e w' => e = .returned (.int .i64 r) ∧ W2 w0 ga gb q st' k st2 k2 d w' :=
  (crash_any ga st k b w (by omega) h.2.2.2.2.1).mono fun e w' ⟨he, hb, hf⟩ => by rw [hr] at he hb; exact ⟨he, h.turnA hb hf⟩
theorem crashB (b : Bool) (r : Int) (hr : cr st2 b = (r, st')) (hv : 1 ≤ st2 ∧ st2 ≤ 4) (h : W2 w0 ga gb q st k st2 k2 d w) : Calls Try.prog 12 #[.pointer (some ⟨gb, 0, none⟩), .bool b] w fun e w' => e = .returned (.int .i64 r) ∧ W2 w0 ga gb q st k st' k2 d w' :=
  (crash_any gb st2 k2 b w (by omega) h.2.2.2.2.2.1).mono fun e w' ⟨he, hb, hf⟩ => by rw [hr] at he hb; exact ⟨he, h.turnB hb hf⟩
theorem startA (r : Int) (hr : sr st = (r, st')) (hv : 1 ≤ st ∧ st ≤ 4) (h : W2 w0 ga gb q st k st2 k2 d w) : Calls Try.prog 14 #[.pointer (some ⟨ga, 0, none⟩)] w fun e w' => e = .returned (.int .i64 r) ∧ W2 w0 ga gb q st' k st2 k2 d w' :=
  (start_any ga st k w (by omega) h.2.2.2.2.1).mono fun e w' ⟨he, hb, hf⟩ => by rw [hr] at he hb; exact ⟨he, h.turnA hb hf⟩
theorem startB (r : Int) (hr : sr st2 = (r, st')) (hv : 1 ≤ st2 ∧ st2 ≤ 4) (h : W2 w0 ga gb q st k st2 k2 d w) : Calls Try.prog 14 #[.pointer (some ⟨gb, 0, none⟩)] w fun e w' => e = .returned (.int .i64 r) ∧ W2 w0 ga gb q st k st' k2 d w' :=
  (start_any gb st2 k2 w (by omega) h.2.2.2.2.2.1).mono fun e w' ⟨he, hb, hf⟩ => by rw [hr] at he hb; exact ⟨he, h.turnB hb hf⟩
theorem readA (h : W2 w0 ga gb q st k st2 k2 d w) : Calls Try.prog 16 #[.pointer (some ⟨ga, 0, none⟩)] w fun e w' => e = .returned (.int .i64 k) ∧ w = w' := read_any ga st k w h.2.2.2.2.1
theorem readB (h : W2 w0 ga gb q st k st2 k2 d w) : Calls Try.prog 16 #[.pointer (some ⟨gb, 0, none⟩)] w fun e w' => e = .returned (.int .i64 k2) ∧ w = w' := read_any gb st2 k2 w h.2.2.2.2.2.1
theorem downA (r : Bool) (hr : (st == 4) = r) (h : W2 w0 ga gb q st k st2 k2 d w) : Calls Try.prog 17 #[.pointer (some ⟨ga, 0, none⟩)] w fun e w' => e = .returned (.bool r) ∧ w = w' := down_any ga st k r hr w h.2.2.2.2.1
theorem downB (r : Bool) (hr : (st2 == 4) = r) (h : W2 w0 ga gb q st k st2 k2 d w) : Calls Try.prog 17 #[.pointer (some ⟨gb, 0, none⟩)] w fun e w' => e = .returned (.bool r) ∧ w = w' := down_any gb st2 k2 r hr w h.2.2.2.2.2.1
theorem W2.d0 {x y z : Value} (h : W2 w0 ga gb q st k st2 k2 #[x, y, z] w) : w.cell? ⟨q, 0, none⟩ = some x := h.2.2.2.2.2.2.2.cell 0
theorem W2.d1 {x y z : Value} (h : W2 w0 ga gb q st k st2 k2 #[x, y, z] w) : w.cell? ⟨q, 1, none⟩ = some y := h.2.2.2.2.2.2.2.cell 1
theorem W2.d2 {x y z : Value} (h : W2 w0 ga gb q st k st2 k2 #[x, y, z] w) : w.cell? ⟨q, 2, none⟩ = some z := h.2.2.2.2.2.2.2.cell 2
end
/-- What Write may come to. -/
theorem wr_cases (st k n : Int) (hv : 1 ≤ st ∧ st ≤ 4) : wr st k n = (80, st, k) ∨ wr st k n = (9, st, k) ∨ ∃ r st' k', wr st k n = (r, st', k') ∧ (r != 80) = true ∧ (r != 9) = true ∧ 1 ≤ st' ∧ st' ≤ 4 := by
  unfold wr
  rw [if_neg (by omega)]
  by_cases h4 : st = 4
  · left; rw [if_pos h4]
  · rw [if_neg h4]
    by_cases hn : n ≤ k ∨ 9007199254740991 < n
    · right; left; rw [if_pos hn]
    · right; right
      rw [if_neg hn]
      by_cases h1 : st = 1
      · exact ⟨0, 1, n, by rw [if_pos h1], by decide, by decide, by omega, by omega⟩
      · rw [if_neg h1]
        by_cases h2 : st = 2
        · exact ⟨270, 4, k, by rw [if_pos h2], by decide, by decide, by omega, by omega⟩
        · exact ⟨270, 4, n, by rw [if_neg h2], by decide, by decide, by omega, by omega⟩
theorem cr_cases (st : Int) (b : Bool) (hv : 1 ≤ st ∧ st ≤ 4) : cr st b = (80, st) ∨ ∃ st', cr st b = (0, st') ∧ 1 ≤ st' ∧ st' ≤ 4 := by
  unfold cr
  rw [if_neg (by omega)]
  by_cases h4 : st = 4
  · left; rw [if_pos h4]
  · right; rw [if_neg h4]; cases b
    · exact ⟨2, rfl, by omega, by omega⟩
    · exact ⟨3, rfl, by omega, by omega⟩
theorem sr_cases (st : Int) (hv : 1 ≤ st ∧ st ≤ 4) : sr st = (80, st) ∨ sr st = (0, 1) := by
  unfold sr
  rw [if_neg (by omega)]
  by_cases h4 : st = 4
  · right; rw [if_pos h4]
  · left; rw [if_neg h4]

set_option maxRecDepth 100000 in
set_option maxHeartbeats 8000000 in
theorem walk (A : Option Addr) (len cap : Nat) (F0 F1 : Nat → Int) (F2 : Nat → Bool) (w : World) (hl : len ≤ 9223372036854775807)
    (hA : Rd w 3 A len (fun i => [.int .i64 (F0 i), .int .i64 (F1 i), .bool (F2 i)])) (hb : ∀ i, i < len → (-9223372036854775808 ≤ F0 i ∧ F0 i ≤ 9223372036854775807)) :
    Calls Try.prog 5 #[.slice A len cap] w fun e w' => e = .returned (.bool true) ∧ Below w.heap.size w w' := by
  have HA := Lib.hid hA; clear hA
  have HB := Lib.hid hb; clear hb
  go_enter Try.func5, Try.ntmps5
  go_wp2_with fail
  refine (works_any _).mono ?_; rintro e w1 ⟨rfl, hb1⟩
  have L1 := Lib.hid hb1; clear hb1
  go_wp2_with fail
  refine (new_any _).mono ?_; rintro e w2 ⟨rfl, hw2⟩
  have l2 : Below w.heap.size w w2 ∧ w2.heap.size = w1.heap.size + 1 ∧ Blk w2 w1.heap.size 41 (cl 1 0) := by
    rw [hw2]
    exact ⟨L1.out.alloc L1.out.size _, by simp, Blk.new _ _ _⟩
  clear hw2
  have L2 := Lib.hid l2; clear l2
  go_wp2_with fail
  refine (new_any _).mono ?_; rintro e w3 ⟨rfl, hw3⟩
  have hq : P2 w w1.heap.size w2.heap.size 1 0 w3 := by
    rw [hw3]
    exact ⟨L2.out.1.alloc L2.out.1.size _, L1.out.size, L2.out.1.size, by have := L2.out.2.1; omega, L2.out.2.2.alloc _, Blk.new _ _ _, by omega, by omega⟩
  clear hw3 L1 L2
  have Q0 := Lib.hid hq; clear hq
  go_wp2_with fail
  go_loopw [5] (fun i wr => ∃ (x : Nat) (st k : Int), x ≤ len ∧ i = .int .i64 x ∧ P2 w w1.heap.size w2.heap.size st k wr) (fun i _ => len - (intOf i).toNat)
  case atStart => exact ⟨0, 1, 0, by omega, rfl, Q0.out⟩
  case round =>
    clear Q0
    obtain ⟨x, st, k, hk, rfl, hq⟩ := hrel
    generalize w1.heap.size = ga at hq ⊢
    generalize w2.heap.size = gb at hq ⊢
    by_cases hlt : x < len
    · obtain ⟨b0, off, rfl, hbl, hc⟩ := HA.out x hlt
      have hc0 : wr.cell? ⟨b0, off + x * 3, none⟩ = some (.int .i64 (F0 x)) := (hq.1.cell (p := ⟨b0, off + x * 3, none⟩) hbl).trans (hc 0 _ rfl)
      have hc1 : wr.cell? ⟨b0, off + x * 3 + 1, none⟩ = some (.int .i64 (F1 x)) := (hq.1.cell (p := ⟨b0, off + x * 3 + 1, none⟩) hbl).trans (hc 1 _ rfl)
      have hc2 : wr.cell? ⟨b0, off + x * 3 + 2, none⟩ = some (.bool (F2 x)) := (hq.1.cell (p := ⟨b0, off + x * 3 + 2, none⟩) hbl).trans (hc 2 _ rfl)
      clear hc HA
      obtain ⟨u1, u2⟩ := HB.out x hlt
      generalize F0 x = kd at *
      generalize F1 x = n at *
      generalize F2 x = bh at *
      have hv : 1 ≤ st ∧ st ≤ 4 := hq.2.2.2.2.2.2
      have HD := Lib.hid (hq.deed #[.int .i64 kd, .int .i64 n, .bool bh])
      clear hq
      go_wp2_with fail
      have m0 := Int.emod_nonneg kd (b := 4) (by omega)
      have m1 := Int.emod_lt_of_pos kd (b := 4) (by omega)
      refine (bring_any _ _ _ u1 u2 (by omega) (by omega)).mono ?_; rintro e w' ⟨rfl, rfl⟩
      clear hc0 hc1 hc2
      have hd := HD.out
      clear HD
      have d0 := hd.d0
      have d1 := hd.d1
      have d2 := hd.d2
      generalize wr.heap.size = q at *
      generalize wr.alloc _ = W1 at *
      generalize kd % 4 = v at *
      clear u1 u2
      obtain ⟨dn, hdn⟩ : ∃ r, (st == 4) = r := ⟨_, rfl⟩
      have HDN := Lib.hid hdn; clear hdn
      obtain rfl | rfl | rfl | rfl : v = 0 ∨ v = 1 ∨ v = 2 ∨ v = 3 := by omega
      · rcases wr_cases st k n hv with hr | hr | ⟨r, st', k', hr, hr1, hr2, hr3, hr4⟩
        · have HR := Lib.hid hr; clear hr
          go_wp2_with fail
          refine (writeA n 80 HR.out hv hd).mono ?_; rintro e w' ⟨rfl, hd1⟩; clear hd d0 d1 d2
          go_wp2_with fail
          refine (readA hd1).mono ?_; rintro e w' ⟨rfl, rfl⟩
          go_wp2_with fail
          refine (readB hd1).mono ?_; rintro e w' ⟨rfl, rfl⟩
          go_wp2_with fail
          refine (downA dn HDN.out hd1).mono ?_; rintro e w' ⟨rfl, rfl⟩
          go_wp2_with fail
          refine (downB dn HDN.out hd1).mono ?_; rintro e w' ⟨rfl, rfl⟩
          go_wp2_with fail
          go_roundw
          case rel => exact ⟨x + 1, st, k, by omega, by go_num, hd1.back hv.1 hv.2⟩
          case measure => simp [intOf]; omega
        · have HR := Lib.hid hr; clear hr
          go_wp2_with fail
          refine (writeA n 9 HR.out hv hd).mono ?_; rintro e w' ⟨rfl, hd1⟩; clear hd d0 d1 d2
          go_wp2_with fail
          refine (readA hd1).mono ?_; rintro e w' ⟨rfl, rfl⟩
          go_wp2_with fail
          refine (readB hd1).mono ?_; rintro e w' ⟨rfl, rfl⟩
          go_wp2_with fail
          refine (downA dn HDN.out hd1).mono ?_; rintro e w' ⟨rfl, rfl⟩
          go_wp2_with fail
          refine (downB dn HDN.out hd1).mono ?_; rintro e w' ⟨rfl, rfl⟩
          go_wp2_with fail
          go_roundw
          case rel => exact ⟨x + 1, st, k, by omega, by go_num, hd1.back hv.1 hv.2⟩
          case measure => simp [intOf]; omega
        · have HR := Lib.hid hr; clear hr
          obtain ⟨dn2, hdn2⟩ : ∃ r, (st' == 4) = r := ⟨_, rfl⟩
          have HDN2 := Lib.hid hdn2; clear hdn2
          go_wp2_with fail
          refine (writeA n r HR.out hv hd).mono ?_; rintro e w' ⟨rfl, hd1⟩; clear hd d0 d1 d2
          have e1 := hd1.d1
          go_wp2_with fail
          refine (writeB n r HR.out hv hd1).mono ?_; rintro e w' ⟨rfl, hd2⟩; clear hd1 e1
          go_wp2_with fail
          refine (readA hd2).mono ?_; rintro e w' ⟨rfl, rfl⟩
          go_wp2_with fail
          refine (readB hd2).mono ?_; rintro e w' ⟨rfl, rfl⟩
          go_wp2_with fail
          refine (downA dn2 HDN2.out hd2).mono ?_; rintro e w' ⟨rfl, rfl⟩
          go_wp2_with fail
          refine (downB dn2 HDN2.out hd2).mono ?_; rintro e w' ⟨rfl, rfl⟩
          go_wp2_with fail
          go_roundw
          case rel => exact ⟨x + 1, st', k', by omega, by go_num, hd2.back hr3 hr4⟩
          case measure => simp [intOf]; omega
      · rcases wr_cases st k n hv with hr | hr | ⟨r, st', k', hr, hr1, hr2, hr3, hr4⟩
        · have HR := Lib.hid hr; clear hr
          go_wp2_with fail
          refine (writeA n 80 HR.out hv hd).mono ?_; rintro e w' ⟨rfl, hd1⟩; clear hd d0 d1 d2
          go_wp2_with fail
          refine (readA hd1).mono ?_; rintro e w' ⟨rfl, rfl⟩
          go_wp2_with fail
          refine (readB hd1).mono ?_; rintro e w' ⟨rfl, rfl⟩
          go_wp2_with fail
          refine (downA dn HDN.out hd1).mono ?_; rintro e w' ⟨rfl, rfl⟩
          go_wp2_with fail
          refine (downB dn HDN.out hd1).mono ?_; rintro e w' ⟨rfl, rfl⟩
          go_wp2_with fail
          go_roundw
          case rel => exact ⟨x + 1, st, k, by omega, by go_num, hd1.back hv.1 hv.2⟩
          case measure => simp [intOf]; omega
        · have HR := Lib.hid hr; clear hr
          go_wp2_with fail
          refine (writeA n 9 HR.out hv hd).mono ?_; rintro e w' ⟨rfl, hd1⟩; clear hd d0 d1 d2
          go_wp2_with fail
          refine (readA hd1).mono ?_; rintro e w' ⟨rfl, rfl⟩
          go_wp2_with fail
          refine (readB hd1).mono ?_; rintro e w' ⟨rfl, rfl⟩
          go_wp2_with fail
          refine (downA dn HDN.out hd1).mono ?_; rintro e w' ⟨rfl, rfl⟩
          go_wp2_with fail
          refine (downB dn HDN.out hd1).mono ?_; rintro e w' ⟨rfl, rfl⟩
          go_wp2_with fail
          go_roundw
          case rel => exact ⟨x + 1, st, k, by omega, by go_num, hd1.back hv.1 hv.2⟩
          case measure => simp [intOf]; omega
        · have HR := Lib.hid hr; clear hr
          obtain ⟨dn2, hdn2⟩ : ∃ r, (st' == 4) = r := ⟨_, rfl⟩
          have HDN2 := Lib.hid hdn2; clear hdn2
          go_wp2_with fail
          refine (writeA n r HR.out hv hd).mono ?_; rintro e w' ⟨rfl, hd1⟩; clear hd d0 d1 d2
          have e1 := hd1.d1
          go_wp2_with fail
          refine (writeB n r HR.out hv hd1).mono ?_; rintro e w' ⟨rfl, hd2⟩; clear hd1 e1
          go_wp2_with fail
          refine (readA hd2).mono ?_; rintro e w' ⟨rfl, rfl⟩
          go_wp2_with fail
          refine (readB hd2).mono ?_; rintro e w' ⟨rfl, rfl⟩
          go_wp2_with fail
          refine (downA dn2 HDN2.out hd2).mono ?_; rintro e w' ⟨rfl, rfl⟩
          go_wp2_with fail
          refine (downB dn2 HDN2.out hd2).mono ?_; rintro e w' ⟨rfl, rfl⟩
          go_wp2_with fail
          go_roundw
          case rel => exact ⟨x + 1, st', k', by omega, by go_num, hd2.back hr3 hr4⟩
          case measure => simp [intOf]; omega
      · rcases cr_cases st bh hv with hr | ⟨st', hr, hr3, hr4⟩
        · have HR := Lib.hid hr; clear hr
          go_wp2_with fail
          refine (crashA bh 80 HR.out hv hd).mono ?_; rintro e w' ⟨rfl, hd1⟩; clear hd d0 d1 d2
          go_wp2_with fail
          refine (readA hd1).mono ?_; rintro e w' ⟨rfl, rfl⟩
          go_wp2_with fail
          refine (readB hd1).mono ?_; rintro e w' ⟨rfl, rfl⟩
          go_wp2_with fail
          refine (downA dn HDN.out hd1).mono ?_; rintro e w' ⟨rfl, rfl⟩
          go_wp2_with fail
          refine (downB dn HDN.out hd1).mono ?_; rintro e w' ⟨rfl, rfl⟩
          go_wp2_with fail
          go_roundw
          case rel => exact ⟨x + 1, st, k, by omega, by go_num, hd1.back hv.1 hv.2⟩
          case measure => simp [intOf]; omega
        · have HR := Lib.hid hr; clear hr
          obtain ⟨dn2, hdn2⟩ : ∃ r, (st' == 4) = r := ⟨_, rfl⟩
          have HDN2 := Lib.hid hdn2; clear hdn2
          go_wp2_with fail
          refine (crashA bh 0 HR.out hv hd).mono ?_; rintro e w' ⟨rfl, hd1⟩; clear hd d0 d1 d2
          have e1 := hd1.d2
          go_wp2_with fail
          refine (crashB bh 0 HR.out hv hd1).mono ?_; rintro e w' ⟨rfl, hd2⟩; clear hd1 e1
          go_wp2_with fail
          refine (readA hd2).mono ?_; rintro e w' ⟨rfl, rfl⟩
          go_wp2_with fail
          refine (readB hd2).mono ?_; rintro e w' ⟨rfl, rfl⟩
          go_wp2_with fail
          refine (downA dn2 HDN2.out hd2).mono ?_; rintro e w' ⟨rfl, rfl⟩
          go_wp2_with fail
          refine (downB dn2 HDN2.out hd2).mono ?_; rintro e w' ⟨rfl, rfl⟩
          go_wp2_with fail
          go_roundw
          case rel => exact ⟨x + 1, st', k, by omega, by go_num, hd2.back hr3 hr4⟩
          case measure => simp [intOf]; omega
      · rcases sr_cases st hv with hr | hr
        · have HR := Lib.hid hr; clear hr
          go_wp2_with fail
          refine (startA 80 HR.out hv hd).mono ?_; rintro e w' ⟨rfl, hd1⟩; clear hd d0 d1 d2
          go_wp2_with fail
          refine (readA hd1).mono ?_; rintro e w' ⟨rfl, rfl⟩
          go_wp2_with fail
          refine (readB hd1).mono ?_; rintro e w' ⟨rfl, rfl⟩
          go_wp2_with fail
          refine (downA dn HDN.out hd1).mono ?_; rintro e w' ⟨rfl, rfl⟩
          go_wp2_with fail
          refine (downB dn HDN.out hd1).mono ?_; rintro e w' ⟨rfl, rfl⟩
          go_wp2_with fail
          go_roundw
          case rel => exact ⟨x + 1, st, k, by omega, by go_num, hd1.back hv.1 hv.2⟩
          case measure => simp [intOf]; omega
        · have HR := Lib.hid hr; clear hr
          go_wp2_with fail
          refine (startA 0 HR.out hv hd).mono ?_; rintro e w' ⟨rfl, hd1⟩; clear hd d0 d1 d2
          go_wp2_with fail
          refine (startB 0 HR.out hv hd1).mono ?_; rintro e w' ⟨rfl, hd2⟩; clear hd1
          go_wp2_with fail
          refine (readA hd2).mono ?_; rintro e w' ⟨rfl, rfl⟩
          go_wp2_with fail
          refine (readB hd2).mono ?_; rintro e w' ⟨rfl, rfl⟩
          go_wp2_with fail
          refine (downA false (by decide) hd2).mono ?_; rintro e w' ⟨rfl, rfl⟩
          go_wp2_with fail
          refine (downB false (by decide) hd2).mono ?_; rintro e w' ⟨rfl, rfl⟩
          go_wp2_with fail
          go_roundw
          case rel => exact ⟨x + 1, 1, k, by omega, by go_num, hd2.back (by omega) (by omega)⟩
          case measure => simp [intOf]; omega
    · go_wp2_with fail
      go_ret
      exact ⟨rfl, hq.1⟩

set_option maxRecDepth 100000 in
theorem lifted (os : Os) (started : os.Started) (H : Type) (enc : TypeId × Value → H) :
    ReturnsInHanded {} Try.checked os 5 .any (Rows.cellRefusedSpec.pre6 enc Try.prog Try.f5 Rows.cellRefusedRow.domain false) (Rows.cellRefusedSpec.post enc Try.prog Try.f5 false true false false) := by
  refine returnsInHanded_of_change (C := Try.checked) own started (by kernel_rfl) Try.func5
    (ChangeSpec.witness6 (enc := enc) (C := Try.checked) false ⟨#[], #[.slice none 0 0], []⟩ 8 (by kernel_rfl) (by kernel_rfl) (by kernel_rfl) (by kernel_rfl)) ?_
  intro W base args ds gs before hval0 hW hcnd _
  have hval : ∀ (j : Nat) t v, Try.f5.params[j]? = some t → args[j]? = some v → Value.okWide Try.prog W .any base t v := hval0
  have hW' := hW
  obtain ⟨p, q, hA0, hV, rfl, hfz, hnd⟩ := hW
  have hA : DataW.TrodAll enc Try.prog W 0 (fun _ => true) true Try.f5.params.toList args.toList ds p := hA0
  rw [Try.params5] at hA hval
  obtain ⟨v0, vs0, d0, ds0, p0, q0, hargs, rfl, rfl, h0, r0⟩ := trodAll_cons hA
  obtain ⟨rfl, rfl, rfl⟩ := trodAll_nil r0
  obtain rfl : args = #[v0] := by cases args; simp_all
  obtain ⟨rfl, rfl⟩ := trodVars_none hV
  have k0 := h0
  have lt0 : ∀ x ∈ p0, x.block < W.heap.size := by obtain ⟨m, hm⟩ := k0; exact DataW.trod_lt m _ _ _ hm
  obtain ⟨s0, len0, cap0, rfl⟩ := okWide_slice Try.underlying22 (hval 0 22 v0 rfl rfl)
  obtain ⟨F0, F1, F2, hrd, hml, hwf⟩ := open_iib Try.underlying22 Try.underlying28 (by kernel_rfl) Try.underlying3 Try.underlying3 Try.underlying4 (by kernel_rfl) h0
  clear hA0 hval0
  refine (walk s0 len0 cap0 F0 F1 F2 W (by unfold maxLen at hml; omega) hrd (fun i hi => wf_bd (hwf i hi).1)).mono fun e W' ⟨he, bel⟩ => ?_
  subst he
  exact ⟨_, rfl, _, _, _, [], _, [], hW', trodAll_mk1 (shut_bool Try.underlying4 _), (trodAll_cons_mk (Below.trod laidOut (by kernel_rfl) (of_decide_eq_true (by kernel_rfl)) k0 bel lt0) trodAll_mk0), rfl, bel.frame _, fun h => by cases h⟩

theorem over : Rows.cellRefusedRow.holds Try.pinned (OpenSpec.ofChange Rows.cellRefusedSpec) :=
  OpenClaim.holds_of_wide 5 Try.f5 rfl rfl rfl rfl rfl rfl rfl ⟨rfl, rfl, rfl, rfl, rfl⟩ rfl rfl rfl rfl rfl (by kernel_rfl) Try.func5 (by kernel_rfl)
    (of_decide_eq_true (by kernel_rfl)) (by unfold Func.isWrapper; first | (rw [if_pos (by decide +kernel)]; kernel_rfl) | (rw [if_neg (by decide +kernel)]; exact ⟨rfl, rfl⟩))
    (fun os started H enc _ => lifted os started H enc)

theorem proved : Rows.CellRefusedSaid := over
#print axioms proved
end Go.Proofs.Ytklpgegooakfjaa.cellRefused
