/-
  hauberklaw08.AlarmDeeds returns true for every n and l, and its arguments read as before. No condition.
  The frame (lifted, over, proved) is a print of a program, after the way of the seat's proof-skeleton.
-/
import Derived.Test.YtlhcefpdkoliaaaWorks
import Derived.Test.YtlhcefpdkoliaaaSeq
import Derived.Test.YtlhcefpdkoliaaaRefTick
namespace Go.Proofs.Ytlhcefpdkoliaaa.alarmDeeds
open Go.ChangeShapes Go.WideShapes Go.ChangeAt Go.RowKit Go.Deep
set_option linter.unusedVariables false

/-- The program's timers, the reference's and three others'; what lay below ahead of them is as it was. -/
def W3 (w0 : World) (ga ma go mo h p n : Nat) (f f' : Nat → Int) (w : World) : Prop :=
  Below w0.heap.size w0 w ∧ (w0.heap.size ≤ ga ∧ w0.heap.size ≤ ma ∧ w0.heap.size ≤ go ∧ w0.heap.size ≤ mo ∧ w0.heap.size ≤ h ∧ w0.heap.size ≤ p) ∧ ma ≠ mo ∧ AK ga ma n f w ∧ RK h p n f' w ∧ ∃ fo, AK go mo 3 fo w
/-- .. and the deed's copy in block q. -/
def D3 (w0 : World) (ga ma go mo h p n q : Nat) (f f' : Nat → Int) (d : Array Value) (w : World) : Prop := W3 w0 ga ma go mo h p n f f' w ∧ w0.heap.size ≤ q ∧ Blk w q 30 d
section
variable {w0 w w' : World} {ga ma go mo h p n q : Nat} {f f' f2 : Nat → Int} {d : Array Value}
theorem W3.drewN (s : W3 w0 ga ma go mo h p n f f' w) (k : Nat) : W3 w0 ga ma go mo h p n f f' (w.drewN k) := by
  obtain ⟨h1, h2, h3, h4, h5, fo, h6⟩ := s
  exact ⟨below_draws h1 k, h2, h3, h4.drewN k, h5.drewN k, fo, h6.drewN k⟩
theorem D3.drewN (s : D3 w0 ga ma go mo h p n q f f' d w) (k : Nat) : D3 w0 ga ma go mo h p n q f f' d (w.drewN k) := ⟨s.1.drewN k, s.2.1, s.2.2.drewN k⟩
theorem D3.drew (s : D3 w0 ga ma go mo h p n q f f' d w) : D3 w0 ga ma go mo h p n q f f' d w.drew := s.drewN 1
theorem W3.deed (s : W3 w0 ga ma go mo h p n f f' w) (d : Array Value) : D3 w0 ga ma go mo h p n w.heap.size f f' d (w.alloc (.cells d 30)) := by
  obtain ⟨h1, h2, h3, h4, h5, fo, h6⟩ := s
  exact ⟨⟨h1.alloc h1.size _, h2, h3, h4.alloc _, h5.alloc _, fo, h6.alloc _⟩, h1.size, Blk.new _ _ _⟩
theorem D3.turnA (s : D3 w0 ga ma go mo h p n q f f' d w) (hk : AK ga ma n f2 w') (hg : w.grownBy w' (some ma)) : D3 w0 ga ma go mo h p n q f2 f' d w' := by
  obtain ⟨⟨h1, h2, h3, h4, h5, fo, h6⟩, h7, h8⟩ := s
  exact ⟨⟨h1.grown hg (by have := h1.size; omega) (fun j hj => by injection hj with hj; omega), h2, h3, hk, h5.kept hg (fun e => h4.2.1.blk_ne h5.1 (by injection e)) (fun e => h4.2.1.blk_ne h5.2.1 (by injection e)), fo,
    h6.kept hg (fun e => h4.2.1.blk_ne h6.1 (by injection e)) (fun e => h3 (by injection e with e; exact e.symm))⟩, h7, h8.grown hg (fun e => h4.2.1.blk_ne h8 (by injection e))⟩
theorem D3.turnR (s : D3 w0 ga ma go mo h p n q f f' d w) (hk : RK h p n f2 w') (hg : w.grownBy w' (some p)) : D3 w0 ga ma go mo h p n q f f2 d w' := by
  obtain ⟨⟨h1, h2, h3, h4, h5, fo, h6⟩, h7, h8⟩ := s
  exact ⟨⟨h1.grown hg (by have := h1.size; omega) (fun j hj => by injection hj with hj; omega), h2, h3, h4.kept hg (fun e => h4.1.ne_ h5.2.1 (by decide) (by injection e)) (fun e => h4.2.1.blk_ne h5.2.1 (by injection e with e; exact e.symm)), hk, fo,
    h6.kept hg (fun e => h6.1.ne_ h5.2.1 (by decide) (by injection e)) (fun e => h6.2.1.blk_ne h5.2.1 (by injection e with e; exact e.symm))⟩, h7, h8.grown hg (fun e => h8.ne_ h5.2.1 (by decide) (by injection e))⟩
theorem D3.turnO {fo' : Nat → Int} (s : D3 w0 ga ma go mo h p n q f f' d w) (hk : AK go mo 3 fo' w') (hg : w.grownBy w' (some mo)) : D3 w0 ga ma go mo h p n q f f' d w' := by
  obtain ⟨⟨h1, h2, h3, h4, h5, fo, h6⟩, h7, h8⟩ := s
  exact ⟨⟨h1.grown hg (by have := h1.size; omega) (fun j hj => by injection hj with hj; omega), h2, h3, h4.kept hg (fun e => h6.2.1.blk_ne h4.1 (by injection e)) (fun e => h3 (by injection e)), h5.kept hg (fun e => h6.2.1.blk_ne h5.1 (by injection e)) (fun e => h6.2.1.blk_ne h5.2.1 (by injection e)), fo', hk⟩,
    h7, h8.grown hg (fun e => h6.2.1.blk_ne h8 (by injection e))⟩
theorem D3.row {b B l : Nat} {v : Value} {ys : List Value} (s : D3 w0 ga ma go mo h p n q f f' d w) (hg : w.grownBy w' (some b)) (hv : v.ownBlock = some b) (ho : w.ownsRow B 3 1 v l ys) (hp : p < B) (h0 : w0.heap.size ≤ B) : D3 w0 ga ma go mo h p n q f f' d w' := by
  obtain ⟨⟨h1, h2, h3, h4, h5, fo, h6⟩, h7, h8⟩ := s
  have hb := (ho.lt b hv).1
  rw [← hv] at hg
  exact ⟨⟨h1.grown hg (by have := h1.size; omega) (fun j hj => Nat.le_trans h0 (ho.lt j hj).1), h2, h3, h4.kept hg (fun e => own_blk_ne ho h4.1 (by decide) e.symm) (fun e => own_map_ne ho h4.2.1 e.symm),
    h5.kept hg (fun e => own_blk_ne ho h5.1 (by decide) e.symm) (fun e => by rw [hv] at e; injection e with e; omega), fo, h6.kept hg (fun e => own_blk_ne ho h6.1 (by decide) e.symm) (fun e => own_map_ne ho h6.2.1 e.symm)⟩, h7, h8.grown hg (fun e => own_blk_ne ho h8 (by decide) e.symm)⟩
theorem setA (j t r : Int) (hr : setR n j t = r) (s : D3 w0 ga ma go mo h p n q f f' d w) : Calls Try.prog 10 #[.pointer (some ⟨ga, 0, none⟩), .int .i64 j, .int .i64 t] w fun e w' => e = .returned (.int .i64 r) ∧ D3 w0 ga ma go mo h p n q (setS n f j t) f' d w' :=
  (set_any ga ma n f j t w s.1.2.2.2.1).mono fun e w' ⟨he, h1, h2⟩ => ⟨by rw [he, hr], s.turnA h1 h2⟩
theorem setB (j t r : Int) (hr : setR n j t = r) (s : D3 w0 ga ma go mo h p n q f f' d w) : Calls Try.prog 18 #[.pointer (some ⟨h, 0, none⟩), .int .i64 j, .int .i64 t] w fun e w' => e = .returned (.int .i64 r) ∧ D3 w0 ga ma go mo h p n q f (setS n f' j t) d w' :=
  (rset_any h p n f' j t w s.1.2.2.2.2.1).mono fun e w' ⟨he, h1, h2⟩ => ⟨by rw [he, hr], s.turnR h1 h2⟩
theorem setO (j t : Int) (s : D3 w0 ga ma go mo h p n q f f' d w) : Calls Try.prog 10 #[.pointer (some ⟨go, 0, none⟩), .int .i64 j, .int .i64 t] w fun e w' => ∃ r : Int, e = .returned (.int .i64 r) ∧ D3 w0 ga ma go mo h p n q f f' d w' := by
  obtain ⟨fo, h6⟩ := s.1.2.2.2.2.2
  exact (set_any go mo 3 fo j t w h6).mono fun e w' ⟨he, h1, h2⟩ => ⟨_, he, s.turnO h1 h2⟩
theorem tickO (s : D3 w0 ga ma go mo h p n q f f' d w) : Calls Try.prog 16 #[.pointer (some ⟨go, 0, none⟩)] w fun e w' => ∃ v, e = .returned (.tuple #[v, .int .i64 0]) ∧ D3 w0 ga ma go mo h p n q f f' d w' := by
  obtain ⟨fo, h6⟩ := s.1.2.2.2.2.2
  exact (tick_any go mo 3 fo w h6).mono fun e w' ⟨v, he, _, h1, h2⟩ => ⟨v, he, s.turnO h1 h2⟩
theorem clearA (j r : Int) (hr : clearR n j = r) (s : D3 w0 ga ma go mo h p n q f f' d w) : Calls Try.prog 11 #[.pointer (some ⟨ga, 0, none⟩), .int .i64 j] w fun e w' => e = .returned (.int .i64 r) ∧ D3 w0 ga ma go mo h p n q (clearS n f j) f' d w' :=
  (clear_any ga ma n f j w s.1.2.2.2.1).mono fun e w' ⟨he, h1, h2⟩ => ⟨by rw [he, hr], s.turnA h1 h2⟩
theorem clearB (j r : Int) (hr : clearR n j = r) (s : D3 w0 ga ma go mo h p n q f f' d w) : Calls Try.prog 19 #[.pointer (some ⟨h, 0, none⟩), .int .i64 j] w fun e w' => e = .returned (.int .i64 r) ∧ D3 w0 ga ma go mo h p n q f (clearS n f' j) d w' :=
  (rclear_any h p n f' j w s.1.2.2.2.2.1).mono fun e w' ⟨he, h1, h2⟩ => ⟨by rw [he, hr], s.turnR h1 h2⟩
theorem fireA (j r : Int) (hr : fireR n f j = r) (s : D3 w0 ga ma go mo h p n q f f' d w) : Calls Try.prog 12 #[.pointer (some ⟨ga, 0, none⟩), .int .i64 j] w fun e w' => e = .returned (.int .i64 r) ∧ D3 w0 ga ma go mo h p n q (clearS n f j) f' d w' :=
  (fire_any ga ma n f j w s.1.2.2.2.1).mono fun e w' ⟨he, h1, h2⟩ => ⟨by rw [he, hr], s.turnA h1 h2⟩
theorem fireB (j r : Int) (hr : fireR n f' j = r) (s : D3 w0 ga ma go mo h p n q f f' d w) : Calls Try.prog 20 #[.pointer (some ⟨h, 0, none⟩), .int .i64 j] w fun e w' => e = .returned (.int .i64 r) ∧ D3 w0 ga ma go mo h p n q f (clearS n f' j) d w' :=
  (rfire_any h p n f' j w s.1.2.2.2.2.1).mono fun e w' ⟨he, h1, h2⟩ => ⟨by rw [he, hr], s.turnR h1 h2⟩
theorem leftA (j r : Int) (hr : leftR n f j = r) (s : D3 w0 ga ma go mo h p n q f f' d w) : Calls Try.prog 15 #[.pointer (some ⟨ga, 0, none⟩), .int .i64 j] w fun e w' => e = .returned (.int .i64 r) ∧ w = w' :=
  (left_any ga ma n f j w s.1.2.2.2.1).mono fun e w' ⟨he, h1⟩ => ⟨by rw [he, hr], h1⟩
theorem leftB (j r : Int) (hr : leftR n f' j = r) (s : D3 w0 ga ma go mo h p n q f f' d w) : Calls Try.prog 22 #[.pointer (some ⟨h, 0, none⟩), .int .i64 j] w fun e w' => e = .returned (.int .i64 r) ∧ w = w' :=
  (rleft_any h p n f' j w s.1.2.2.2.2.1).mono fun e w' ⟨he, h1⟩ => ⟨by rw [he, hr], h1⟩
theorem D3.d12 {x y z : Value} (s : D3 w0 ga ma go mo h p n q f f' #[x, y, z] w) : w.cell? ⟨q, 1, none⟩ = some y ∧ w.cell? ⟨q, 2, none⟩ = some z := ⟨s.2.2.cell 1, s.2.2.cell 2⟩
theorem D3.d0 {x y z : Value} (s : D3 w0 ga ma go mo h p n q f f' #[x, y, z] w) : w.cell? ⟨q, 0, none⟩ = some x := s.2.2.cell 0
end

set_option maxRecDepth 1000000 in
set_option maxHeartbeats 32000000 in
theorem walk (nn : Int) (A : Option Addr) (len cap : Nat) (F0 F1 F2 : Nat → Int) (w : World) (hl : len ≤ 9223372036854775807)
    (hA : Rd w 3 A len (fun i => [.int .i64 (F0 i), .int .i64 (F1 i), .int .i64 (F2 i)]))
    (hb : ∀ i, i < len → (-9223372036854775808 ≤ F0 i ∧ F0 i ≤ 9223372036854775807)) :
    Calls Try.prog 6 #[.int .i64 nn, .slice A len cap] w fun e w' => e = .returned (.bool true) ∧ Below w.heap.size w w' := by
  by_cases hbad : nn < 1 ∨ 16 < nn
  · have HB := Lib.hid hbad; clear hbad
    go_enter Try.func6, Try.ntmps6
    go_wp2_with fail
    refine (new_bad nn _ HB.out).mono ?_; rintro e w' ⟨rfl, rfl⟩
    go_wp2_with fail
    refine (rnew_bad nn _ HB.out).mono ?_; rintro e w' ⟨rfl, rfl⟩
    go_wp2_with fail
    refine (new_any 3 _ (by omega) (by omega)).mono ?_; rintro e w2 ⟨rfl, hw2⟩
    have hb2 : Below w.heap.size w w2 := by
      rw [hw2]
      exact ((Below.refl _ _).alloc (Nat.le_refl _) _).alloc (by simp) _
    clear hw2
    have HB2 := Lib.hid hb2; clear hb2
    go_wp2_with fail
    refine (works_any _).mono ?_; rintro e w' ⟨rfl, hb1⟩
    go_wp2_with fail
    go_ret
    exact ⟨rfl, HB2.out.trans (hb1.mono HB2.out.size)⟩
  · obtain ⟨n, rfl⟩ := Int.eq_ofNat_of_zero_le (show 0 ≤ nn by omega)
    have n1 : 1 ≤ n := by omega
    have n2 : n ≤ 16 := by omega
    clear hbad
    have HA := Lib.hid hA; clear hA
    have HB := Lib.hid hb; clear hb
    go_enter Try.func6, Try.ntmps6
    go_wp2_with fail
    refine (new_any n _ n1 n2).mono ?_; rintro e w1 ⟨rfl, hw1⟩
    have l1 : Below w.heap.size w w1 ∧ AK (w.heap.size + 1) w.heap.size n (fun _ => 0) w1 ∧ w1.heap.size = w.heap.size + 2 := by
      rw [hw1]
      exact ⟨((Below.refl _ _).alloc (Nat.le_refl _) _).alloc (by simp) _, new_ak n w n1 n2, by simp⟩
    clear hw1
    have L1 := Lib.hid l1; clear l1
    go_wp2_with fail
    refine (rnew_any n _ n1 n2).mono ?_; rintro e w2 ⟨rfl, hr2, hg2⟩
    have l2 : Below w.heap.size w w2 ∧ AK (w.heap.size + 1) w.heap.size n (fun _ => 0) w2 ∧ RK (w1.heap.size + 1) w1.heap.size n (fun _ => 0) w2 ∧ w1.heap.size ≤ w2.heap.size :=
      ⟨L1.out.1.grown hg2 L1.out.1.size (fun j hj => by cases hj), L1.out.2.1.kept hg2 (by simp) (by simp), hr2, hg2.size⟩
    clear hr2 hg2
    have L2 := Lib.hid l2; clear l2
    go_wp2_with fail
    refine (new_any 3 _ (by omega) (by omega)).mono ?_; rintro e w3 ⟨rfl, hw3⟩
    have hq : W3 w (w.heap.size + 1) w.heap.size (w2.heap.size + 1) w2.heap.size (w1.heap.size + 1) w1.heap.size n (fun _ => 0) (fun _ => 0) w3 := by
      have e1 := L1.out.2.2
      have e2 := L2.out.2.2.2
      rw [hw3]
      exact ⟨(L2.out.1.alloc L2.out.1.size _).alloc (by have := L2.out.1.size; simp; omega) _, by omega, by omega, (L2.out.2.1.alloc _).alloc _, (L2.out.2.2.1.alloc _).alloc _, _, new_ak 3 w2 (by omega) (by omega)⟩
    clear hw3 L1 L2
    have Q0 := Lib.hid hq; clear hq
    obtain ⟨ga, hga⟩ : ∃ ga, ga = w.heap.size + 1 := ⟨_, rfl⟩
    obtain ⟨ma, hma⟩ : ∃ ma, ma = w.heap.size := ⟨_, rfl⟩
    obtain ⟨go, hgo⟩ : ∃ go, go = w2.heap.size + 1 := ⟨_, rfl⟩
    obtain ⟨h, hh⟩ : ∃ h, h = w1.heap.size + 1 := ⟨_, rfl⟩
    have Q1 : Hid (W3 w ga ma go w2.heap.size h w1.heap.size n (fun _ => 0) (fun _ => 0) w3) := Lib.hid (by rw [hga, hma, hgo, hh]; exact Q0.out)
    clear Q0
    rw [← hga, ← hgo, ← hh]
    clear hga hma hgo hh
    generalize w2.heap.size = mo at *
    generalize w1.heap.size = p at *
    go_wp2_with fail
    go_loopw [11] (fun i wr => ∃ (x : Nat) (f : Nat → Int), x ≤ len ∧ i = .int .i64 x ∧ W3 w ga ma go mo h p n f f wr) (fun i _ => len - (intOf i).toNat)
    case atStart => exact ⟨0, _, by omega, rfl, Q1.out⟩
    case round =>
      clear Q1
      obtain ⟨x, f, hk, rfl, hq⟩ := hrel
      by_cases hlt : x < len
      · obtain ⟨b0, off, rfl, hbl, hc⟩ := HA.out x hlt
        have hc0 : wr.cell? ⟨b0, off + x * 3, none⟩ = some (.int .i64 (F0 x)) := (hq.1.cell (p := ⟨b0, off + x * 3, none⟩) hbl).trans (hc 0 _ rfl)
        have hc1 : wr.cell? ⟨b0, off + x * 3 + 1, none⟩ = some (.int .i64 (F1 x)) := (hq.1.cell (p := ⟨b0, off + x * 3 + 1, none⟩) hbl).trans (hc 1 _ rfl)
        have hc2 : wr.cell? ⟨b0, off + x * 3 + 2, none⟩ = some (.int .i64 (F2 x)) := (hq.1.cell (p := ⟨b0, off + x * 3 + 2, none⟩) hbl).trans (hc 2 _ rfl)
        clear hc HA
        obtain ⟨u1, u2⟩ := HB.out x hlt
        generalize F0 x = wh at *
        generalize F1 x = kd at *
        generalize F2 x = tc at *
        have p1 : (0 : Int) ≤ (x : Int) := by omega
        have p2 : (x : Int) < (len : Int) := by omega
        have HD := Lib.hid (hq.deed #[.int .i64 wh, .int .i64 kd, .int .i64 tc])
        clear hq
        go_wp2_with fail
        have hd := HD.out
        clear HD hc0 hc1 hc2
        generalize wr.heap.size = q at *
        generalize wr.alloc _ = W1 at *
        refine (setO _ _ hd).mono ?_; rintro e w4 ⟨r0, rfl, hd4⟩; clear hd
        have d0 := hd4.d0
        have HD := Lib.hid hd4; clear hd4
        go_wp2_with fail
        have m0 := Int.emod_nonneg wh (b := 4) (by omega)
        have m1 := Int.emod_lt_of_pos wh (b := 4) (by omega)
        refine (bring_any _ _ _ u1 u2 (by omega) (by omega)).mono ?_; rintro e w' ⟨rfl, rfl⟩
        clear d0
        generalize wh % 4 = v at *
        clear u1 u2
        obtain rfl | rfl | rfl | rfl : v = 0 ∨ v = 1 ∨ v = 2 ∨ v = 3 := by omega
        · obtain ⟨r, hr⟩ : ∃ r, setR n kd tc = r := ⟨_, rfl⟩
          have HR := Lib.hid hr; clear hr
          go_wp2_with fail
          have hs0 := HD.out.drew
          clear HD
          have hS0 := hs0.d12
          refine region_seq [(0, true), (1, true), (2, true), (3, true), (4, true), (6, true), (7, true), (8, true), (9, true), (10, true), (5, false), (11, false), (12, true), (13, true)] (fun w1 => w1.cell? ⟨q, 1, none⟩ = some (.int .i64 kd) ∧ w1.cell? ⟨q, 2, none⟩ = some (.int .i64 tc)) (by kernel_rfl) (by kernel_rfl) (Nat.le_of_eq (by kernel_rfl)) (by kernel_rfl) (fun _ _ _ _ _ h => h) ?_
          refine seq_take (by rfl) (by rfl) hS0 (v := ?_) ?_ ?_
          rotate_left
          · intro w1 hSw; (try dsimp only at hSw); simp only [List.getElem_toArray, List.getElem_cons_zero]; (try go_simp); try with_reducible rfl
          simp only [Act.put, List.getElem_toArray, List.getElem_cons_zero, List.setIfInBounds_toArray, List.set_cons_zero, List.set_cons_succ]
          refine seq_take (by rfl) (by rfl) hS0 (v := ?_) ?_ ?_
          rotate_left
          · intro w1 hSw; (try dsimp only at hSw); simp only [List.getElem_toArray, List.getElem_cons_zero, List.getElem_cons_succ]; (try go_simp); try with_reducible rfl
          simp only [Act.put, List.getElem_toArray, List.getElem_cons_zero, List.getElem_cons_succ, List.setIfInBounds_toArray, List.set_cons_zero, List.set_cons_succ]
          refine seq_take (by rfl) (by rfl) hS0 (v := ?_) ?_ ?_
          rotate_left
          · intro w1 hSw; (try dsimp only at hSw); simp only [List.getElem_toArray, List.getElem_cons_zero, List.getElem_cons_succ]; (try go_simp); try with_reducible rfl
          simp only [Act.put, List.getElem_toArray, List.getElem_cons_zero, List.getElem_cons_succ, List.setIfInBounds_toArray, List.set_cons_zero, List.set_cons_succ]
          refine seq_take (by rfl) (by rfl) hS0 (v := ?_) ?_ ?_
          rotate_left
          · intro w1 hSw; (try dsimp only at hSw); simp only [List.getElem_toArray, List.getElem_cons_zero, List.getElem_cons_succ]; (try go_simp); try with_reducible rfl
          simp only [Act.put, List.getElem_toArray, List.getElem_cons_zero, List.getElem_cons_succ, List.setIfInBounds_toArray, List.set_cons_zero, List.set_cons_succ]
          refine seq_take (by rfl) (by rfl) hS0 (v := ?_) ?_ ?_
          rotate_left
          · intro w1 hSw; (try dsimp only at hSw); simp only [List.getElem_toArray, List.getElem_cons_zero, List.getElem_cons_succ]; (try go_simp); try with_reducible rfl
          simp only [Act.put, List.getElem_toArray, List.getElem_cons_zero, List.getElem_cons_succ, List.setIfInBounds_toArray, List.set_cons_zero, List.set_cons_succ]
          refine seq_take (by rfl) (by rfl) hS0 (v := ?_) ?_ ?_
          rotate_left
          · intro w1 hSw; (try dsimp only at hSw); simp only [List.getElem_toArray, List.getElem_cons_zero, List.getElem_cons_succ]; (try go_simp); try with_reducible rfl
          simp only [Act.put, List.getElem_toArray, List.getElem_cons_zero, List.getElem_cons_succ, List.setIfInBounds_toArray, List.set_cons_zero, List.set_cons_succ]
          refine seq_take (by rfl) (by rfl) hS0 (v := ?_) ?_ ?_
          rotate_left
          · intro w1 hSw; (try dsimp only at hSw); simp only [List.getElem_toArray, List.getElem_cons_zero, List.getElem_cons_succ]; (try go_simp); try with_reducible rfl
          simp only [Act.put, List.getElem_toArray, List.getElem_cons_zero, List.getElem_cons_succ, List.setIfInBounds_toArray, List.set_cons_zero, List.set_cons_succ]
          refine seq_take (by rfl) (by rfl) hS0 (v := ?_) ?_ ?_
          rotate_left
          · intro w1 hSw; (try dsimp only at hSw); simp only [List.getElem_toArray, List.getElem_cons_zero, List.getElem_cons_succ]; (try go_simp); try with_reducible rfl
          simp only [Act.put, List.getElem_toArray, List.getElem_cons_zero, List.getElem_cons_succ, List.setIfInBounds_toArray, List.set_cons_zero, List.set_cons_succ]
          refine seq_take (by rfl) (by rfl) hS0 (v := ?_) ?_ ?_
          rotate_left
          · intro w1 hSw; (try dsimp only at hSw); simp only [List.getElem_toArray, List.getElem_cons_zero, List.getElem_cons_succ]; (try go_simp); try with_reducible rfl
          simp only [Act.put, List.getElem_toArray, List.getElem_cons_zero, List.getElem_cons_succ, List.setIfInBounds_toArray, List.set_cons_zero, List.set_cons_succ]
          refine seq_take (by rfl) (by rfl) hS0 (v := ?_) ?_ ?_
          rotate_left
          · intro w1 hSw; (try dsimp only at hSw); simp only [List.getElem_toArray, List.getElem_cons_zero, List.getElem_cons_succ]; (try go_simp); try with_reducible rfl
          simp only [Act.put, List.getElem_toArray, List.getElem_cons_zero, List.getElem_cons_succ, List.setIfInBounds_toArray, List.set_cons_zero, List.set_cons_succ]
          refine seq_call (by rfl) (by rfl) ?_
          intro K hK
          simp only [List.getElem_toArray, List.getElem_cons_zero, List.getElem_cons_succ]
          go_simp
          refine (setA kd tc r HR.out hs0).mono ?_; rintro e w1 ⟨rfl, hs1⟩
          refine hK _ _ (hs1.d12) ?_
          have hS0 := hs1.d12
          clear hK K hs0
          refine seq_call (by rfl) (by rfl) ?_
          intro K hK
          simp only [List.getElem_toArray, List.getElem_cons_zero, List.getElem_cons_succ]
          go_simp
          refine (setB kd tc r HR.out hs1).mono ?_; rintro e w1 ⟨rfl, hs2⟩
          refine hK _ _ (hs2.d12) ?_
          have hS0 := hs2.d12
          clear hK K hs1
          refine seq_take (by rfl) (by rfl) hS0 (v := ?_) ?_ ?_
          rotate_left
          · intro w1 hSw; (try dsimp only at hSw); simp only [List.getElem_toArray, List.getElem_cons_zero, List.getElem_cons_succ]; (try go_simp); try with_reducible rfl
          simp only [Act.put, List.getElem_toArray, List.getElem_cons_zero, List.getElem_cons_succ, List.setIfInBounds_toArray, List.set_cons_zero, List.set_cons_succ]
          refine seq_take (by rfl) (by rfl) hS0 (v := ?_) ?_ ?_
          rotate_left
          · intro w1 hSw; (try dsimp only at hSw); simp only [List.getElem_toArray, List.getElem_cons_zero, List.getElem_cons_succ]; (try go_simp); try with_reducible rfl
          simp only [Act.put, List.getElem_toArray, List.getElem_cons_zero, List.getElem_cons_succ, List.setIfInBounds_toArray, List.set_cons_zero, List.set_cons_succ]
          refine seq_done ?_
          clear hS0
          obtain ⟨lf, hlf⟩ : ∃ r, leftR n (setS n f kd tc) kd = r := ⟨_, rfl⟩
          have HLF := Lib.hid hlf; clear hlf
          go_wp2_with fail
          have hz := hs2.drew
          clear hs2
          have hS0 := hz.d12
          refine region_seq [(0, true), (1, true), (2, true), (3, true), (4, true), (5, true), (6, true), (8, true), (9, true), (10, true), (7, false), (11, false), (12, true), (13, true)] (fun w1 => w1.cell? ⟨q, 1, none⟩ = some (.int .i64 kd) ∧ w1.cell? ⟨q, 2, none⟩ = some (.int .i64 tc)) (by kernel_rfl) (by kernel_rfl) (Nat.le_of_eq (by kernel_rfl)) (by kernel_rfl) (fun _ _ _ _ _ h => h) ?_
          refine seq_take (by rfl) (by rfl) hS0 (v := ?_) ?_ ?_
          rotate_left
          · intro w1 hSw; (try dsimp only at hSw); simp only [List.getElem_toArray, List.getElem_cons_zero]; (try go_simp); try with_reducible rfl
          simp only [Act.put, List.getElem_toArray, List.getElem_cons_zero, List.setIfInBounds_toArray, List.set_cons_zero, List.set_cons_succ]
          refine seq_take (by rfl) (by rfl) hS0 (v := ?_) ?_ ?_
          rotate_left
          · intro w1 hSw; (try dsimp only at hSw); simp only [List.getElem_toArray, List.getElem_cons_zero, List.getElem_cons_succ]; (try go_simp); try with_reducible rfl
          simp only [Act.put, List.getElem_toArray, List.getElem_cons_zero, List.getElem_cons_succ, List.setIfInBounds_toArray, List.set_cons_zero, List.set_cons_succ]
          refine seq_take (by rfl) (by rfl) hS0 (v := ?_) ?_ ?_
          rotate_left
          · intro w1 hSw; (try dsimp only at hSw); simp only [List.getElem_toArray, List.getElem_cons_zero, List.getElem_cons_succ]; (try go_simp); try with_reducible rfl
          simp only [Act.put, List.getElem_toArray, List.getElem_cons_zero, List.getElem_cons_succ, List.setIfInBounds_toArray, List.set_cons_zero, List.set_cons_succ]
          refine seq_take (by rfl) (by rfl) hS0 (v := ?_) ?_ ?_
          rotate_left
          · intro w1 hSw; (try dsimp only at hSw); simp only [List.getElem_toArray, List.getElem_cons_zero, List.getElem_cons_succ]; (try go_simp); try with_reducible rfl
          simp only [Act.put, List.getElem_toArray, List.getElem_cons_zero, List.getElem_cons_succ, List.setIfInBounds_toArray, List.set_cons_zero, List.set_cons_succ]
          refine seq_take (by rfl) (by rfl) hS0 (v := ?_) ?_ ?_
          rotate_left
          · intro w1 hSw; (try dsimp only at hSw); simp only [List.getElem_toArray, List.getElem_cons_zero, List.getElem_cons_succ]; (try go_simp); try with_reducible rfl
          simp only [Act.put, List.getElem_toArray, List.getElem_cons_zero, List.getElem_cons_succ, List.setIfInBounds_toArray, List.set_cons_zero, List.set_cons_succ]
          refine seq_take (by rfl) (by rfl) hS0 (v := ?_) ?_ ?_
          rotate_left
          · intro w1 hSw; (try dsimp only at hSw); simp only [List.getElem_toArray, List.getElem_cons_zero, List.getElem_cons_succ]; (try go_simp); try with_reducible rfl
          simp only [Act.put, List.getElem_toArray, List.getElem_cons_zero, List.getElem_cons_succ, List.setIfInBounds_toArray, List.set_cons_zero, List.set_cons_succ]
          refine seq_take (by rfl) (by rfl) hS0 (v := ?_) ?_ ?_
          rotate_left
          · intro w1 hSw; (try dsimp only at hSw); simp only [List.getElem_toArray, List.getElem_cons_zero, List.getElem_cons_succ]; (try go_simp); try with_reducible rfl
          simp only [Act.put, List.getElem_toArray, List.getElem_cons_zero, List.getElem_cons_succ, List.setIfInBounds_toArray, List.set_cons_zero, List.set_cons_succ]
          refine seq_take (by rfl) (by rfl) hS0 (v := ?_) ?_ ?_
          rotate_left
          · intro w1 hSw; (try dsimp only at hSw); simp only [List.getElem_toArray, List.getElem_cons_zero, List.getElem_cons_succ]; (try go_simp); try with_reducible rfl
          simp only [Act.put, List.getElem_toArray, List.getElem_cons_zero, List.getElem_cons_succ, List.setIfInBounds_toArray, List.set_cons_zero, List.set_cons_succ]
          refine seq_take (by rfl) (by rfl) hS0 (v := ?_) ?_ ?_
          rotate_left
          · intro w1 hSw; (try dsimp only at hSw); simp only [List.getElem_toArray, List.getElem_cons_zero, List.getElem_cons_succ]; (try go_simp); try with_reducible rfl
          simp only [Act.put, List.getElem_toArray, List.getElem_cons_zero, List.getElem_cons_succ, List.setIfInBounds_toArray, List.set_cons_zero, List.set_cons_succ]
          refine seq_take (by rfl) (by rfl) hS0 (v := ?_) ?_ ?_
          rotate_left
          · intro w1 hSw; (try dsimp only at hSw); simp only [List.getElem_toArray, List.getElem_cons_zero, List.getElem_cons_succ]; (try go_simp); try with_reducible rfl
          simp only [Act.put, List.getElem_toArray, List.getElem_cons_zero, List.getElem_cons_succ, List.setIfInBounds_toArray, List.set_cons_zero, List.set_cons_succ]
          refine seq_call (by rfl) (by rfl) ?_
          intro K hK
          simp only [List.getElem_toArray, List.getElem_cons_zero, List.getElem_cons_succ]
          go_simp
          refine (leftA kd lf HLF.out hz).mono ?_; rintro e w1 ⟨rfl, rfl⟩
          refine hK _ _ hS0 ?_
          clear hK K
          refine seq_call (by rfl) (by rfl) ?_
          intro K hK
          simp only [List.getElem_toArray, List.getElem_cons_zero, List.getElem_cons_succ]
          go_simp
          refine (leftB kd lf HLF.out hz).mono ?_; rintro e w1 ⟨rfl, rfl⟩
          refine hK _ _ hS0 ?_
          clear hK K
          refine seq_take (by rfl) (by rfl) hS0 (v := ?_) ?_ ?_
          rotate_left
          · intro w1 hSw; (try dsimp only at hSw); simp only [List.getElem_toArray, List.getElem_cons_zero, List.getElem_cons_succ]; (try go_simp); try with_reducible rfl
          simp only [Act.put, List.getElem_toArray, List.getElem_cons_zero, List.getElem_cons_succ, List.setIfInBounds_toArray, List.set_cons_zero, List.set_cons_succ]
          refine seq_take (by rfl) (by rfl) hS0 (v := ?_) ?_ ?_
          rotate_left
          · intro w1 hSw; (try dsimp only at hSw); simp only [List.getElem_toArray, List.getElem_cons_zero, List.getElem_cons_succ]; (try go_simp); try with_reducible rfl
          simp only [Act.put, List.getElem_toArray, List.getElem_cons_zero, List.getElem_cons_succ, List.setIfInBounds_toArray, List.set_cons_zero, List.set_cons_succ]
          refine seq_done ?_
          clear hS0
          have HZ := Lib.hid hz; clear hz
          go_wp2_with fail
          go_loop [18] (fun i => ∃ j : Int, -1 ≤ j ∧ j ≤ 17 ∧ i = .int .i64 j) (fun i => (17 - intOf i).toNat)
          case atStart => exact ⟨-1, by omega, by omega, rfl⟩
          case round =>
            obtain ⟨j, hj1, hj2, rfl⟩ := hrel
            by_cases hj : j ≤ 16
            · obtain ⟨lg, hlg⟩ : ∃ r, leftR n (setS n f kd tc) j = r := ⟨_, rfl⟩
              have HLG := Lib.hid hlg; clear hlg
              go_wp2_with fail
              refine (leftA j lg HLG.out HZ.out).mono ?_; rintro e w' ⟨rfl, rfl⟩
              go_wp2_with fail
              refine (leftB j lg HLG.out HZ.out).mono ?_; rintro e w' ⟨rfl, rfl⟩
              go_wp2_with fail
              go_round
              case rel => exact ⟨j + 1, by omega, by omega, by go_num⟩
              case measure => simp [intOf]; omega
            · go_wp2_with fail
              go_roundw
              case rel => exact ⟨x + 1, _, by omega, by go_num, HZ.out.1⟩
              case measure => simp [intOf]; omega
        · obtain ⟨r, hr⟩ : ∃ r, clearR n kd = r := ⟨_, rfl⟩
          have HR := Lib.hid hr; clear hr
          go_wp2_with fail
          have hs0 := HD.out.drew
          clear HD
          have hS0 := hs0.d12
          refine region_seq [(0, true), (1, true), (2, true), (4, true), (5, true), (6, true), (3, false), (7, false), (8, true), (9, true)] (fun w1 => w1.cell? ⟨q, 1, none⟩ = some (.int .i64 kd) ∧ w1.cell? ⟨q, 2, none⟩ = some (.int .i64 tc)) (by kernel_rfl) (by kernel_rfl) (Nat.le_of_eq (by kernel_rfl)) (by kernel_rfl) (fun _ _ _ _ _ h => h) ?_
          refine seq_take (by rfl) (by rfl) hS0 (v := ?_) ?_ ?_
          rotate_left
          · intro w1 hSw; (try dsimp only at hSw); simp only [List.getElem_toArray, List.getElem_cons_zero]; (try go_simp); try with_reducible rfl
          simp only [Act.put, List.getElem_toArray, List.getElem_cons_zero, List.setIfInBounds_toArray, List.set_cons_zero, List.set_cons_succ]
          refine seq_take (by rfl) (by rfl) hS0 (v := ?_) ?_ ?_
          rotate_left
          · intro w1 hSw; (try dsimp only at hSw); simp only [List.getElem_toArray, List.getElem_cons_zero, List.getElem_cons_succ]; (try go_simp); try with_reducible rfl
          simp only [Act.put, List.getElem_toArray, List.getElem_cons_zero, List.getElem_cons_succ, List.setIfInBounds_toArray, List.set_cons_zero, List.set_cons_succ]
          refine seq_take (by rfl) (by rfl) hS0 (v := ?_) ?_ ?_
          rotate_left
          · intro w1 hSw; (try dsimp only at hSw); simp only [List.getElem_toArray, List.getElem_cons_zero, List.getElem_cons_succ]; (try go_simp); try with_reducible rfl
          simp only [Act.put, List.getElem_toArray, List.getElem_cons_zero, List.getElem_cons_succ, List.setIfInBounds_toArray, List.set_cons_zero, List.set_cons_succ]
          refine seq_take (by rfl) (by rfl) hS0 (v := ?_) ?_ ?_
          rotate_left
          · intro w1 hSw; (try dsimp only at hSw); simp only [List.getElem_toArray, List.getElem_cons_zero, List.getElem_cons_succ]; (try go_simp); try with_reducible rfl
          simp only [Act.put, List.getElem_toArray, List.getElem_cons_zero, List.getElem_cons_succ, List.setIfInBounds_toArray, List.set_cons_zero, List.set_cons_succ]
          refine seq_take (by rfl) (by rfl) hS0 (v := ?_) ?_ ?_
          rotate_left
          · intro w1 hSw; (try dsimp only at hSw); simp only [List.getElem_toArray, List.getElem_cons_zero, List.getElem_cons_succ]; (try go_simp); try with_reducible rfl
          simp only [Act.put, List.getElem_toArray, List.getElem_cons_zero, List.getElem_cons_succ, List.setIfInBounds_toArray, List.set_cons_zero, List.set_cons_succ]
          refine seq_take (by rfl) (by rfl) hS0 (v := ?_) ?_ ?_
          rotate_left
          · intro w1 hSw; (try dsimp only at hSw); simp only [List.getElem_toArray, List.getElem_cons_zero, List.getElem_cons_succ]; (try go_simp); try with_reducible rfl
          simp only [Act.put, List.getElem_toArray, List.getElem_cons_zero, List.getElem_cons_succ, List.setIfInBounds_toArray, List.set_cons_zero, List.set_cons_succ]
          refine seq_call (by rfl) (by rfl) ?_
          intro K hK
          simp only [List.getElem_toArray, List.getElem_cons_zero, List.getElem_cons_succ]
          go_simp
          refine (clearA kd r HR.out hs0).mono ?_; rintro e w1 ⟨rfl, hs1⟩
          refine hK _ _ (hs1.d12) ?_
          have hS0 := hs1.d12
          clear hK K hs0
          refine seq_call (by rfl) (by rfl) ?_
          intro K hK
          simp only [List.getElem_toArray, List.getElem_cons_zero, List.getElem_cons_succ]
          go_simp
          refine (clearB kd r HR.out hs1).mono ?_; rintro e w1 ⟨rfl, hs2⟩
          refine hK _ _ (hs2.d12) ?_
          have hS0 := hs2.d12
          clear hK K hs1
          refine seq_take (by rfl) (by rfl) hS0 (v := ?_) ?_ ?_
          rotate_left
          · intro w1 hSw; (try dsimp only at hSw); simp only [List.getElem_toArray, List.getElem_cons_zero, List.getElem_cons_succ]; (try go_simp); try with_reducible rfl
          simp only [Act.put, List.getElem_toArray, List.getElem_cons_zero, List.getElem_cons_succ, List.setIfInBounds_toArray, List.set_cons_zero, List.set_cons_succ]
          refine seq_take (by rfl) (by rfl) hS0 (v := ?_) ?_ ?_
          rotate_left
          · intro w1 hSw; (try dsimp only at hSw); simp only [List.getElem_toArray, List.getElem_cons_zero, List.getElem_cons_succ]; (try go_simp); try with_reducible rfl
          simp only [Act.put, List.getElem_toArray, List.getElem_cons_zero, List.getElem_cons_succ, List.setIfInBounds_toArray, List.set_cons_zero, List.set_cons_succ]
          refine seq_done ?_
          clear hS0
          obtain ⟨lf, hlf⟩ : ∃ r, leftR n (clearS n f kd) kd = r := ⟨_, rfl⟩
          have HLF := Lib.hid hlf; clear hlf
          go_wp2_with fail
          have hz := hs2.drew
          clear hs2
          have hS0 := hz.d12
          refine region_seq [(0, true), (1, true), (2, true), (3, true), (4, true), (5, true), (6, true), (8, true), (9, true), (10, true), (7, false), (11, false), (12, true), (13, true)] (fun w1 => w1.cell? ⟨q, 1, none⟩ = some (.int .i64 kd) ∧ w1.cell? ⟨q, 2, none⟩ = some (.int .i64 tc)) (by kernel_rfl) (by kernel_rfl) (Nat.le_of_eq (by kernel_rfl)) (by kernel_rfl) (fun _ _ _ _ _ h => h) ?_
          refine seq_take (by rfl) (by rfl) hS0 (v := ?_) ?_ ?_
          rotate_left
          · intro w1 hSw; (try dsimp only at hSw); simp only [List.getElem_toArray, List.getElem_cons_zero]; (try go_simp); try with_reducible rfl
          simp only [Act.put, List.getElem_toArray, List.getElem_cons_zero, List.setIfInBounds_toArray, List.set_cons_zero, List.set_cons_succ]
          refine seq_take (by rfl) (by rfl) hS0 (v := ?_) ?_ ?_
          rotate_left
          · intro w1 hSw; (try dsimp only at hSw); simp only [List.getElem_toArray, List.getElem_cons_zero, List.getElem_cons_succ]; (try go_simp); try with_reducible rfl
          simp only [Act.put, List.getElem_toArray, List.getElem_cons_zero, List.getElem_cons_succ, List.setIfInBounds_toArray, List.set_cons_zero, List.set_cons_succ]
          refine seq_take (by rfl) (by rfl) hS0 (v := ?_) ?_ ?_
          rotate_left
          · intro w1 hSw; (try dsimp only at hSw); simp only [List.getElem_toArray, List.getElem_cons_zero, List.getElem_cons_succ]; (try go_simp); try with_reducible rfl
          simp only [Act.put, List.getElem_toArray, List.getElem_cons_zero, List.getElem_cons_succ, List.setIfInBounds_toArray, List.set_cons_zero, List.set_cons_succ]
          refine seq_take (by rfl) (by rfl) hS0 (v := ?_) ?_ ?_
          rotate_left
          · intro w1 hSw; (try dsimp only at hSw); simp only [List.getElem_toArray, List.getElem_cons_zero, List.getElem_cons_succ]; (try go_simp); try with_reducible rfl
          simp only [Act.put, List.getElem_toArray, List.getElem_cons_zero, List.getElem_cons_succ, List.setIfInBounds_toArray, List.set_cons_zero, List.set_cons_succ]
          refine seq_take (by rfl) (by rfl) hS0 (v := ?_) ?_ ?_
          rotate_left
          · intro w1 hSw; (try dsimp only at hSw); simp only [List.getElem_toArray, List.getElem_cons_zero, List.getElem_cons_succ]; (try go_simp); try with_reducible rfl
          simp only [Act.put, List.getElem_toArray, List.getElem_cons_zero, List.getElem_cons_succ, List.setIfInBounds_toArray, List.set_cons_zero, List.set_cons_succ]
          refine seq_take (by rfl) (by rfl) hS0 (v := ?_) ?_ ?_
          rotate_left
          · intro w1 hSw; (try dsimp only at hSw); simp only [List.getElem_toArray, List.getElem_cons_zero, List.getElem_cons_succ]; (try go_simp); try with_reducible rfl
          simp only [Act.put, List.getElem_toArray, List.getElem_cons_zero, List.getElem_cons_succ, List.setIfInBounds_toArray, List.set_cons_zero, List.set_cons_succ]
          refine seq_take (by rfl) (by rfl) hS0 (v := ?_) ?_ ?_
          rotate_left
          · intro w1 hSw; (try dsimp only at hSw); simp only [List.getElem_toArray, List.getElem_cons_zero, List.getElem_cons_succ]; (try go_simp); try with_reducible rfl
          simp only [Act.put, List.getElem_toArray, List.getElem_cons_zero, List.getElem_cons_succ, List.setIfInBounds_toArray, List.set_cons_zero, List.set_cons_succ]
          refine seq_take (by rfl) (by rfl) hS0 (v := ?_) ?_ ?_
          rotate_left
          · intro w1 hSw; (try dsimp only at hSw); simp only [List.getElem_toArray, List.getElem_cons_zero, List.getElem_cons_succ]; (try go_simp); try with_reducible rfl
          simp only [Act.put, List.getElem_toArray, List.getElem_cons_zero, List.getElem_cons_succ, List.setIfInBounds_toArray, List.set_cons_zero, List.set_cons_succ]
          refine seq_take (by rfl) (by rfl) hS0 (v := ?_) ?_ ?_
          rotate_left
          · intro w1 hSw; (try dsimp only at hSw); simp only [List.getElem_toArray, List.getElem_cons_zero, List.getElem_cons_succ]; (try go_simp); try with_reducible rfl
          simp only [Act.put, List.getElem_toArray, List.getElem_cons_zero, List.getElem_cons_succ, List.setIfInBounds_toArray, List.set_cons_zero, List.set_cons_succ]
          refine seq_take (by rfl) (by rfl) hS0 (v := ?_) ?_ ?_
          rotate_left
          · intro w1 hSw; (try dsimp only at hSw); simp only [List.getElem_toArray, List.getElem_cons_zero, List.getElem_cons_succ]; (try go_simp); try with_reducible rfl
          simp only [Act.put, List.getElem_toArray, List.getElem_cons_zero, List.getElem_cons_succ, List.setIfInBounds_toArray, List.set_cons_zero, List.set_cons_succ]
          refine seq_call (by rfl) (by rfl) ?_
          intro K hK
          simp only [List.getElem_toArray, List.getElem_cons_zero, List.getElem_cons_succ]
          go_simp
          refine (leftA kd lf HLF.out hz).mono ?_; rintro e w1 ⟨rfl, rfl⟩
          refine hK _ _ hS0 ?_
          clear hK K
          refine seq_call (by rfl) (by rfl) ?_
          intro K hK
          simp only [List.getElem_toArray, List.getElem_cons_zero, List.getElem_cons_succ]
          go_simp
          refine (leftB kd lf HLF.out hz).mono ?_; rintro e w1 ⟨rfl, rfl⟩
          refine hK _ _ hS0 ?_
          clear hK K
          refine seq_take (by rfl) (by rfl) hS0 (v := ?_) ?_ ?_
          rotate_left
          · intro w1 hSw; (try dsimp only at hSw); simp only [List.getElem_toArray, List.getElem_cons_zero, List.getElem_cons_succ]; (try go_simp); try with_reducible rfl
          simp only [Act.put, List.getElem_toArray, List.getElem_cons_zero, List.getElem_cons_succ, List.setIfInBounds_toArray, List.set_cons_zero, List.set_cons_succ]
          refine seq_take (by rfl) (by rfl) hS0 (v := ?_) ?_ ?_
          rotate_left
          · intro w1 hSw; (try dsimp only at hSw); simp only [List.getElem_toArray, List.getElem_cons_zero, List.getElem_cons_succ]; (try go_simp); try with_reducible rfl
          simp only [Act.put, List.getElem_toArray, List.getElem_cons_zero, List.getElem_cons_succ, List.setIfInBounds_toArray, List.set_cons_zero, List.set_cons_succ]
          refine seq_done ?_
          clear hS0
          have HZ := Lib.hid hz; clear hz
          go_wp2_with fail
          go_loop [18] (fun i => ∃ j : Int, -1 ≤ j ∧ j ≤ 17 ∧ i = .int .i64 j) (fun i => (17 - intOf i).toNat)
          case atStart => exact ⟨-1, by omega, by omega, rfl⟩
          case round =>
            obtain ⟨j, hj1, hj2, rfl⟩ := hrel
            by_cases hj : j ≤ 16
            · obtain ⟨lg, hlg⟩ : ∃ r, leftR n (clearS n f kd) j = r := ⟨_, rfl⟩
              have HLG := Lib.hid hlg; clear hlg
              go_wp2_with fail
              refine (leftA j lg HLG.out HZ.out).mono ?_; rintro e w' ⟨rfl, rfl⟩
              go_wp2_with fail
              refine (leftB j lg HLG.out HZ.out).mono ?_; rintro e w' ⟨rfl, rfl⟩
              go_wp2_with fail
              go_round
              case rel => exact ⟨j + 1, by omega, by omega, by go_num⟩
              case measure => simp [intOf]; omega
            · go_wp2_with fail
              go_roundw
              case rel => exact ⟨x + 1, _, by omega, by go_num, HZ.out.1⟩
              case measure => simp [intOf]; omega
        · obtain ⟨r, hr⟩ : ∃ r, fireR n f kd = r := ⟨_, rfl⟩
          have HR := Lib.hid hr; clear hr
          go_wp2_with fail
          have hs0 := HD.out.drew
          clear HD
          have hS0 := hs0.d12
          refine region_seq [(0, true), (1, true), (2, true), (4, true), (5, true), (6, true), (3, false), (7, false), (8, true), (9, true)] (fun w1 => w1.cell? ⟨q, 1, none⟩ = some (.int .i64 kd) ∧ w1.cell? ⟨q, 2, none⟩ = some (.int .i64 tc)) (by kernel_rfl) (by kernel_rfl) (Nat.le_of_eq (by kernel_rfl)) (by kernel_rfl) (fun _ _ _ _ _ h => h) ?_
          refine seq_take (by rfl) (by rfl) hS0 (v := ?_) ?_ ?_
          rotate_left
          · intro w1 hSw; (try dsimp only at hSw); simp only [List.getElem_toArray, List.getElem_cons_zero]; (try go_simp); try with_reducible rfl
          simp only [Act.put, List.getElem_toArray, List.getElem_cons_zero, List.setIfInBounds_toArray, List.set_cons_zero, List.set_cons_succ]
          refine seq_take (by rfl) (by rfl) hS0 (v := ?_) ?_ ?_
          rotate_left
          · intro w1 hSw; (try dsimp only at hSw); simp only [List.getElem_toArray, List.getElem_cons_zero, List.getElem_cons_succ]; (try go_simp); try with_reducible rfl
          simp only [Act.put, List.getElem_toArray, List.getElem_cons_zero, List.getElem_cons_succ, List.setIfInBounds_toArray, List.set_cons_zero, List.set_cons_succ]
          refine seq_take (by rfl) (by rfl) hS0 (v := ?_) ?_ ?_
          rotate_left
          · intro w1 hSw; (try dsimp only at hSw); simp only [List.getElem_toArray, List.getElem_cons_zero, List.getElem_cons_succ]; (try go_simp); try with_reducible rfl
          simp only [Act.put, List.getElem_toArray, List.getElem_cons_zero, List.getElem_cons_succ, List.setIfInBounds_toArray, List.set_cons_zero, List.set_cons_succ]
          refine seq_take (by rfl) (by rfl) hS0 (v := ?_) ?_ ?_
          rotate_left
          · intro w1 hSw; (try dsimp only at hSw); simp only [List.getElem_toArray, List.getElem_cons_zero, List.getElem_cons_succ]; (try go_simp); try with_reducible rfl
          simp only [Act.put, List.getElem_toArray, List.getElem_cons_zero, List.getElem_cons_succ, List.setIfInBounds_toArray, List.set_cons_zero, List.set_cons_succ]
          refine seq_take (by rfl) (by rfl) hS0 (v := ?_) ?_ ?_
          rotate_left
          · intro w1 hSw; (try dsimp only at hSw); simp only [List.getElem_toArray, List.getElem_cons_zero, List.getElem_cons_succ]; (try go_simp); try with_reducible rfl
          simp only [Act.put, List.getElem_toArray, List.getElem_cons_zero, List.getElem_cons_succ, List.setIfInBounds_toArray, List.set_cons_zero, List.set_cons_succ]
          refine seq_take (by rfl) (by rfl) hS0 (v := ?_) ?_ ?_
          rotate_left
          · intro w1 hSw; (try dsimp only at hSw); simp only [List.getElem_toArray, List.getElem_cons_zero, List.getElem_cons_succ]; (try go_simp); try with_reducible rfl
          simp only [Act.put, List.getElem_toArray, List.getElem_cons_zero, List.getElem_cons_succ, List.setIfInBounds_toArray, List.set_cons_zero, List.set_cons_succ]
          refine seq_call (by rfl) (by rfl) ?_
          intro K hK
          simp only [List.getElem_toArray, List.getElem_cons_zero, List.getElem_cons_succ]
          go_simp
          refine (fireA kd r HR.out hs0).mono ?_; rintro e w1 ⟨rfl, hs1⟩
          refine hK _ _ (hs1.d12) ?_
          have hS0 := hs1.d12
          clear hK K hs0
          refine seq_call (by rfl) (by rfl) ?_
          intro K hK
          simp only [List.getElem_toArray, List.getElem_cons_zero, List.getElem_cons_succ]
          go_simp
          refine (fireB kd r HR.out hs1).mono ?_; rintro e w1 ⟨rfl, hs2⟩
          refine hK _ _ (hs2.d12) ?_
          have hS0 := hs2.d12
          clear hK K hs1
          refine seq_take (by rfl) (by rfl) hS0 (v := ?_) ?_ ?_
          rotate_left
          · intro w1 hSw; (try dsimp only at hSw); simp only [List.getElem_toArray, List.getElem_cons_zero, List.getElem_cons_succ]; (try go_simp); try with_reducible rfl
          simp only [Act.put, List.getElem_toArray, List.getElem_cons_zero, List.getElem_cons_succ, List.setIfInBounds_toArray, List.set_cons_zero, List.set_cons_succ]
          refine seq_take (by rfl) (by rfl) hS0 (v := ?_) ?_ ?_
          rotate_left
          · intro w1 hSw; (try dsimp only at hSw); simp only [List.getElem_toArray, List.getElem_cons_zero, List.getElem_cons_succ]; (try go_simp); try with_reducible rfl
          simp only [Act.put, List.getElem_toArray, List.getElem_cons_zero, List.getElem_cons_succ, List.setIfInBounds_toArray, List.set_cons_zero, List.set_cons_succ]
          refine seq_done ?_
          clear hS0
          obtain ⟨lf, hlf⟩ : ∃ r, leftR n (clearS n f kd) kd = r := ⟨_, rfl⟩
          have HLF := Lib.hid hlf; clear hlf
          go_wp2_with fail
          have hz := hs2.drew
          clear hs2
          have hS0 := hz.d12
          refine region_seq [(0, true), (1, true), (2, true), (3, true), (4, true), (5, true), (6, true), (8, true), (9, true), (10, true), (7, false), (11, false), (12, true), (13, true)] (fun w1 => w1.cell? ⟨q, 1, none⟩ = some (.int .i64 kd) ∧ w1.cell? ⟨q, 2, none⟩ = some (.int .i64 tc)) (by kernel_rfl) (by kernel_rfl) (Nat.le_of_eq (by kernel_rfl)) (by kernel_rfl) (fun _ _ _ _ _ h => h) ?_
          refine seq_take (by rfl) (by rfl) hS0 (v := ?_) ?_ ?_
          rotate_left
          · intro w1 hSw; (try dsimp only at hSw); simp only [List.getElem_toArray, List.getElem_cons_zero]; (try go_simp); try with_reducible rfl
          simp only [Act.put, List.getElem_toArray, List.getElem_cons_zero, List.setIfInBounds_toArray, List.set_cons_zero, List.set_cons_succ]
          refine seq_take (by rfl) (by rfl) hS0 (v := ?_) ?_ ?_
          rotate_left
          · intro w1 hSw; (try dsimp only at hSw); simp only [List.getElem_toArray, List.getElem_cons_zero, List.getElem_cons_succ]; (try go_simp); try with_reducible rfl
          simp only [Act.put, List.getElem_toArray, List.getElem_cons_zero, List.getElem_cons_succ, List.setIfInBounds_toArray, List.set_cons_zero, List.set_cons_succ]
          refine seq_take (by rfl) (by rfl) hS0 (v := ?_) ?_ ?_
          rotate_left
          · intro w1 hSw; (try dsimp only at hSw); simp only [List.getElem_toArray, List.getElem_cons_zero, List.getElem_cons_succ]; (try go_simp); try with_reducible rfl
          simp only [Act.put, List.getElem_toArray, List.getElem_cons_zero, List.getElem_cons_succ, List.setIfInBounds_toArray, List.set_cons_zero, List.set_cons_succ]
          refine seq_take (by rfl) (by rfl) hS0 (v := ?_) ?_ ?_
          rotate_left
          · intro w1 hSw; (try dsimp only at hSw); simp only [List.getElem_toArray, List.getElem_cons_zero, List.getElem_cons_succ]; (try go_simp); try with_reducible rfl
          simp only [Act.put, List.getElem_toArray, List.getElem_cons_zero, List.getElem_cons_succ, List.setIfInBounds_toArray, List.set_cons_zero, List.set_cons_succ]
          refine seq_take (by rfl) (by rfl) hS0 (v := ?_) ?_ ?_
          rotate_left
          · intro w1 hSw; (try dsimp only at hSw); simp only [List.getElem_toArray, List.getElem_cons_zero, List.getElem_cons_succ]; (try go_simp); try with_reducible rfl
          simp only [Act.put, List.getElem_toArray, List.getElem_cons_zero, List.getElem_cons_succ, List.setIfInBounds_toArray, List.set_cons_zero, List.set_cons_succ]
          refine seq_take (by rfl) (by rfl) hS0 (v := ?_) ?_ ?_
          rotate_left
          · intro w1 hSw; (try dsimp only at hSw); simp only [List.getElem_toArray, List.getElem_cons_zero, List.getElem_cons_succ]; (try go_simp); try with_reducible rfl
          simp only [Act.put, List.getElem_toArray, List.getElem_cons_zero, List.getElem_cons_succ, List.setIfInBounds_toArray, List.set_cons_zero, List.set_cons_succ]
          refine seq_take (by rfl) (by rfl) hS0 (v := ?_) ?_ ?_
          rotate_left
          · intro w1 hSw; (try dsimp only at hSw); simp only [List.getElem_toArray, List.getElem_cons_zero, List.getElem_cons_succ]; (try go_simp); try with_reducible rfl
          simp only [Act.put, List.getElem_toArray, List.getElem_cons_zero, List.getElem_cons_succ, List.setIfInBounds_toArray, List.set_cons_zero, List.set_cons_succ]
          refine seq_take (by rfl) (by rfl) hS0 (v := ?_) ?_ ?_
          rotate_left
          · intro w1 hSw; (try dsimp only at hSw); simp only [List.getElem_toArray, List.getElem_cons_zero, List.getElem_cons_succ]; (try go_simp); try with_reducible rfl
          simp only [Act.put, List.getElem_toArray, List.getElem_cons_zero, List.getElem_cons_succ, List.setIfInBounds_toArray, List.set_cons_zero, List.set_cons_succ]
          refine seq_take (by rfl) (by rfl) hS0 (v := ?_) ?_ ?_
          rotate_left
          · intro w1 hSw; (try dsimp only at hSw); simp only [List.getElem_toArray, List.getElem_cons_zero, List.getElem_cons_succ]; (try go_simp); try with_reducible rfl
          simp only [Act.put, List.getElem_toArray, List.getElem_cons_zero, List.getElem_cons_succ, List.setIfInBounds_toArray, List.set_cons_zero, List.set_cons_succ]
          refine seq_take (by rfl) (by rfl) hS0 (v := ?_) ?_ ?_
          rotate_left
          · intro w1 hSw; (try dsimp only at hSw); simp only [List.getElem_toArray, List.getElem_cons_zero, List.getElem_cons_succ]; (try go_simp); try with_reducible rfl
          simp only [Act.put, List.getElem_toArray, List.getElem_cons_zero, List.getElem_cons_succ, List.setIfInBounds_toArray, List.set_cons_zero, List.set_cons_succ]
          refine seq_call (by rfl) (by rfl) ?_
          intro K hK
          simp only [List.getElem_toArray, List.getElem_cons_zero, List.getElem_cons_succ]
          go_simp
          refine (leftA kd lf HLF.out hz).mono ?_; rintro e w1 ⟨rfl, rfl⟩
          refine hK _ _ hS0 ?_
          clear hK K
          refine seq_call (by rfl) (by rfl) ?_
          intro K hK
          simp only [List.getElem_toArray, List.getElem_cons_zero, List.getElem_cons_succ]
          go_simp
          refine (leftB kd lf HLF.out hz).mono ?_; rintro e w1 ⟨rfl, rfl⟩
          refine hK _ _ hS0 ?_
          clear hK K
          refine seq_take (by rfl) (by rfl) hS0 (v := ?_) ?_ ?_
          rotate_left
          · intro w1 hSw; (try dsimp only at hSw); simp only [List.getElem_toArray, List.getElem_cons_zero, List.getElem_cons_succ]; (try go_simp); try with_reducible rfl
          simp only [Act.put, List.getElem_toArray, List.getElem_cons_zero, List.getElem_cons_succ, List.setIfInBounds_toArray, List.set_cons_zero, List.set_cons_succ]
          refine seq_take (by rfl) (by rfl) hS0 (v := ?_) ?_ ?_
          rotate_left
          · intro w1 hSw; (try dsimp only at hSw); simp only [List.getElem_toArray, List.getElem_cons_zero, List.getElem_cons_succ]; (try go_simp); try with_reducible rfl
          simp only [Act.put, List.getElem_toArray, List.getElem_cons_zero, List.getElem_cons_succ, List.setIfInBounds_toArray, List.set_cons_zero, List.set_cons_succ]
          refine seq_done ?_
          clear hS0
          have HZ := Lib.hid hz; clear hz
          go_wp2_with fail
          go_loop [18] (fun i => ∃ j : Int, -1 ≤ j ∧ j ≤ 17 ∧ i = .int .i64 j) (fun i => (17 - intOf i).toNat)
          case atStart => exact ⟨-1, by omega, by omega, rfl⟩
          case round =>
            obtain ⟨j, hj1, hj2, rfl⟩ := hrel
            by_cases hj : j ≤ 16
            · obtain ⟨lg, hlg⟩ : ∃ r, leftR n (clearS n f kd) j = r := ⟨_, rfl⟩
              have HLG := Lib.hid hlg; clear hlg
              go_wp2_with fail
              refine (leftA j lg HLG.out HZ.out).mono ?_; rintro e w' ⟨rfl, rfl⟩
              go_wp2_with fail
              refine (leftB j lg HLG.out HZ.out).mono ?_; rintro e w' ⟨rfl, rfl⟩
              go_wp2_with fail
              go_round
              case rel => exact ⟨j + 1, by omega, by omega, by go_num⟩
              case measure => simp [intOf]; omega
            · go_wp2_with fail
              go_roundw
              case rel => exact ⟨x + 1, _, by omega, by go_num, HZ.out.1⟩
              case measure => simp [intOf]; omega
        · have hbd := HD.out.1.2.2.2.1.bd
          have HBD := Lib.hid hbd; clear hbd
          have hln := dueL_len f n
          have hp5 : p < w4.heap.size := HD.out.1.2.2.2.2.1.2.1.lt
          have h05 : w.heap.size ≤ w4.heap.size := HD.out.1.1.size
          go_wp2_with fail
          refine (tick_any ga ma n f _ HD.out.1.2.2.2.1).mono ?_; rintro e w5 ⟨vx, rfl, hox, hk5, hg5⟩
          have hd5 := HD.out.turnA hk5 hg5
          have hs5 := hg5.size
          clear hk5 hg5 HD
          have HD := Lib.hid hd5; clear hd5
          have HOX := Lib.hid hox; clear hox
          go_wp2_with fail
          refine (rtick_any h p n f _ HD.out.1.2.2.2.2.1 HBD.out).mono ?_; rintro e w6 ⟨vy, rfl, hoy, hk6, hg6⟩
          have hd6 := HD.out.turnR hk6 hg6
          have hox6 := HOX.out.kept hg6 (.inr (fun e => by have := (HOX.out.lt p e).1; omega))
          clear hk6 hg6 HD HOX HBD
          have hix := IL.of_own hox6
          have hiy := IL.of_own hoy
          have HD := Lib.hid hd6; clear hd6
          have HOX := Lib.hid hox6; clear hox6 hoy
          go_wp2_with fail
          refine (eq_any _ _ _ _ _ hix hiy (by omega) (by omega)).mono ?_; rintro e w' ⟨rfl, nq, rfl⟩
          obtain ⟨Ax, cx, rfl, _⟩ := hix
          clear hiy
          have hd7 := HD.out.drewN nq
          have ho7 : (w6.drewN nq).ownsRow w4.heap.size 3 1 (.slice Ax (dueL f n).length cx) (dueL f n).length ((dueL f n).map (Value.int .i64)) := HOX.out
          clear HD HOX
          generalize w6.drewN nq = W7 at *
          generalize (dueL f n).map (Value.int .i64) = ys0 at *
          generalize (dueL f n).length = L at *
          have HD := Lib.hid hd7; clear hd7
          have HOX := Lib.hid ho7; clear ho7
          go_wp2_with fail
          go_loopw [17] (fun i wx => ∃ (j : Nat) (ys : List Value), j ≤ L ∧ i = .int .i64 j ∧ wx.ownsRow w4.heap.size 3 1 (.slice Ax L cx) L ys ∧ D3 w ga ma go mo h p n q (tk f) (tk f) #[.int .i64 wh, .int .i64 kd, .int .i64 tc] wx) (fun i _ => L - (intOf i).toNat)
          case atStart => exact ⟨0, _, by omega, rfl, HOX.out, HD.out⟩
          case round =>
            clear HD HOX
            obtain ⟨j, ys, hj, rfl, hoj, hdj⟩ := hrel
            by_cases hjL : j < L
            · obtain ⟨g, rfl⟩ : ∃ g, Ax = some ⟨g, 0, none⟩ := by
                obtain ⟨A', c', he, _, _, hcc⟩ := own_form hoj
                obtain ⟨g, hg, _⟩ := hcc j hjL
                injection he with h1 h2 h3
                exact ⟨g, by rw [h1, hg]⟩
              obtain ⟨A', c', he, _, _, hcc⟩ := own_form hoj
              obtain ⟨g', hg', _, _, hcell⟩ := hcc j hjL
              have hys : ys.length = L := by have := hoj.1; simpa using this
              obtain rfl : g = g' := by
                injection he with h1 h2 h3
                rw [hg'] at h1
                injection h1 with h1
                injection h1
              rw [List.getElem?_eq_getElem (by omega)] at hcell
              generalize ys[j] = yv at hcell
              have hfz := hoj.frozenAt j
              have hst := hoj.stored j (.int .i64 99)
              have hdk := hdj.row hst.2 rfl hoj hp5 h05
              have HST := Lib.hid hst.1; clear hst
              have HDK := Lib.hid hdk; clear hdk hdj hoj he hg' hcc
              go_wp2_with fail
              go_roundw
              case rel => exact ⟨j + 1, _, by omega, by go_num, HST.out, HDK.out⟩
              case measure => simp [intOf]; omega
            · obtain rfl : j = L := by omega
              go_wp2_with fail
              refine (tickO hdj).mono ?_; rintro e w9 ⟨vz, rfl, hd9⟩; clear hdj hoj
              obtain ⟨lf, hlf⟩ : ∃ r, leftR n (tk f) kd = r := ⟨_, rfl⟩
              have HLF := Lib.hid hlf; clear hlf
              go_wp2_with fail
              have hz := hd9.drew
              clear hd9
              have hS0 := hz.d12
              refine region_seq [(0, true), (1, true), (2, true), (3, true), (4, true), (5, true), (6, true), (8, true), (9, true), (10, true), (7, false), (11, false), (12, true), (13, true)] (fun w1 => w1.cell? ⟨q, 1, none⟩ = some (.int .i64 kd) ∧ w1.cell? ⟨q, 2, none⟩ = some (.int .i64 tc)) (by kernel_rfl) (by kernel_rfl) (Nat.le_of_eq (by kernel_rfl)) (by kernel_rfl) (fun _ _ _ _ _ h => h) ?_
              refine seq_take (by rfl) (by rfl) hS0 (v := ?_) ?_ ?_
              rotate_left
              · intro w1 hSw; (try dsimp only at hSw); simp only [List.getElem_toArray, List.getElem_cons_zero]; (try go_simp); try with_reducible rfl
              simp only [Act.put, List.getElem_toArray, List.getElem_cons_zero, List.setIfInBounds_toArray, List.set_cons_zero, List.set_cons_succ]
              refine seq_take (by rfl) (by rfl) hS0 (v := ?_) ?_ ?_
              rotate_left
              · intro w1 hSw; (try dsimp only at hSw); simp only [List.getElem_toArray, List.getElem_cons_zero, List.getElem_cons_succ]; (try go_simp); try with_reducible rfl
              simp only [Act.put, List.getElem_toArray, List.getElem_cons_zero, List.getElem_cons_succ, List.setIfInBounds_toArray, List.set_cons_zero, List.set_cons_succ]
              refine seq_take (by rfl) (by rfl) hS0 (v := ?_) ?_ ?_
              rotate_left
              · intro w1 hSw; (try dsimp only at hSw); simp only [List.getElem_toArray, List.getElem_cons_zero, List.getElem_cons_succ]; (try go_simp); try with_reducible rfl
              simp only [Act.put, List.getElem_toArray, List.getElem_cons_zero, List.getElem_cons_succ, List.setIfInBounds_toArray, List.set_cons_zero, List.set_cons_succ]
              refine seq_take (by rfl) (by rfl) hS0 (v := ?_) ?_ ?_
              rotate_left
              · intro w1 hSw; (try dsimp only at hSw); simp only [List.getElem_toArray, List.getElem_cons_zero, List.getElem_cons_succ]; (try go_simp); try with_reducible rfl
              simp only [Act.put, List.getElem_toArray, List.getElem_cons_zero, List.getElem_cons_succ, List.setIfInBounds_toArray, List.set_cons_zero, List.set_cons_succ]
              refine seq_take (by rfl) (by rfl) hS0 (v := ?_) ?_ ?_
              rotate_left
              · intro w1 hSw; (try dsimp only at hSw); simp only [List.getElem_toArray, List.getElem_cons_zero, List.getElem_cons_succ]; (try go_simp); try with_reducible rfl
              simp only [Act.put, List.getElem_toArray, List.getElem_cons_zero, List.getElem_cons_succ, List.setIfInBounds_toArray, List.set_cons_zero, List.set_cons_succ]
              refine seq_take (by rfl) (by rfl) hS0 (v := ?_) ?_ ?_
              rotate_left
              · intro w1 hSw; (try dsimp only at hSw); simp only [List.getElem_toArray, List.getElem_cons_zero, List.getElem_cons_succ]; (try go_simp); try with_reducible rfl
              simp only [Act.put, List.getElem_toArray, List.getElem_cons_zero, List.getElem_cons_succ, List.setIfInBounds_toArray, List.set_cons_zero, List.set_cons_succ]
              refine seq_take (by rfl) (by rfl) hS0 (v := ?_) ?_ ?_
              rotate_left
              · intro w1 hSw; (try dsimp only at hSw); simp only [List.getElem_toArray, List.getElem_cons_zero, List.getElem_cons_succ]; (try go_simp); try with_reducible rfl
              simp only [Act.put, List.getElem_toArray, List.getElem_cons_zero, List.getElem_cons_succ, List.setIfInBounds_toArray, List.set_cons_zero, List.set_cons_succ]
              refine seq_take (by rfl) (by rfl) hS0 (v := ?_) ?_ ?_
              rotate_left
              · intro w1 hSw; (try dsimp only at hSw); simp only [List.getElem_toArray, List.getElem_cons_zero, List.getElem_cons_succ]; (try go_simp); try with_reducible rfl
              simp only [Act.put, List.getElem_toArray, List.getElem_cons_zero, List.getElem_cons_succ, List.setIfInBounds_toArray, List.set_cons_zero, List.set_cons_succ]
              refine seq_take (by rfl) (by rfl) hS0 (v := ?_) ?_ ?_
              rotate_left
              · intro w1 hSw; (try dsimp only at hSw); simp only [List.getElem_toArray, List.getElem_cons_zero, List.getElem_cons_succ]; (try go_simp); try with_reducible rfl
              simp only [Act.put, List.getElem_toArray, List.getElem_cons_zero, List.getElem_cons_succ, List.setIfInBounds_toArray, List.set_cons_zero, List.set_cons_succ]
              refine seq_take (by rfl) (by rfl) hS0 (v := ?_) ?_ ?_
              rotate_left
              · intro w1 hSw; (try dsimp only at hSw); simp only [List.getElem_toArray, List.getElem_cons_zero, List.getElem_cons_succ]; (try go_simp); try with_reducible rfl
              simp only [Act.put, List.getElem_toArray, List.getElem_cons_zero, List.getElem_cons_succ, List.setIfInBounds_toArray, List.set_cons_zero, List.set_cons_succ]
              refine seq_call (by rfl) (by rfl) ?_
              intro K hK
              simp only [List.getElem_toArray, List.getElem_cons_zero, List.getElem_cons_succ]
              go_simp
              refine (leftA kd lf HLF.out hz).mono ?_; rintro e w1 ⟨rfl, rfl⟩
              refine hK _ _ hS0 ?_
              clear hK K
              refine seq_call (by rfl) (by rfl) ?_
              intro K hK
              simp only [List.getElem_toArray, List.getElem_cons_zero, List.getElem_cons_succ]
              go_simp
              refine (leftB kd lf HLF.out hz).mono ?_; rintro e w1 ⟨rfl, rfl⟩
              refine hK _ _ hS0 ?_
              clear hK K
              refine seq_take (by rfl) (by rfl) hS0 (v := ?_) ?_ ?_
              rotate_left
              · intro w1 hSw; (try dsimp only at hSw); simp only [List.getElem_toArray, List.getElem_cons_zero, List.getElem_cons_succ]; (try go_simp); try with_reducible rfl
              simp only [Act.put, List.getElem_toArray, List.getElem_cons_zero, List.getElem_cons_succ, List.setIfInBounds_toArray, List.set_cons_zero, List.set_cons_succ]
              refine seq_take (by rfl) (by rfl) hS0 (v := ?_) ?_ ?_
              rotate_left
              · intro w1 hSw; (try dsimp only at hSw); simp only [List.getElem_toArray, List.getElem_cons_zero, List.getElem_cons_succ]; (try go_simp); try with_reducible rfl
              simp only [Act.put, List.getElem_toArray, List.getElem_cons_zero, List.getElem_cons_succ, List.setIfInBounds_toArray, List.set_cons_zero, List.set_cons_succ]
              refine seq_done ?_
              clear hS0
              have HZ := Lib.hid hz; clear hz
              go_wp2_with fail
              go_loop [18] (fun i => ∃ j : Int, -1 ≤ j ∧ j ≤ 17 ∧ i = .int .i64 j) (fun i => (17 - intOf i).toNat)
              case atStart => exact ⟨-1, by omega, by omega, rfl⟩
              case round =>
                obtain ⟨j, hj1, hj2, rfl⟩ := hrel
                by_cases hj : j ≤ 16
                · obtain ⟨lg, hlg⟩ : ∃ r, leftR n (tk f) j = r := ⟨_, rfl⟩
                  have HLG := Lib.hid hlg; clear hlg
                  go_wp2_with fail
                  refine (leftA j lg HLG.out HZ.out).mono ?_; rintro e w' ⟨rfl, rfl⟩
                  go_wp2_with fail
                  refine (leftB j lg HLG.out HZ.out).mono ?_; rintro e w' ⟨rfl, rfl⟩
                  go_wp2_with fail
                  go_round
                  case rel => exact ⟨j + 1, by omega, by omega, by go_num⟩
                  case measure => simp [intOf]; omega
                · go_wp2_with fail
                  go_roundw
                  case rel => exact ⟨x + 1, _, by omega, by go_num, HZ.out.1⟩
                  case measure => simp [intOf]; omega


      · have hb := hq.1
        clear hq
        go_wp2_with fail
        refine (works_any _).mono ?_; rintro e w' ⟨rfl, hb1⟩
        go_wp2_with fail
        go_ret
        exact ⟨rfl, hb.trans (hb1.mono hb.size)⟩

set_option maxRecDepth 100000 in
theorem lifted (os : Os) (started : os.Started) (H : Type) (enc : TypeId × Value → H) :
    ReturnsInHanded {} Try.checked os 6 .any (Rows.alarmDeedsSpec.pre6 enc Try.prog Try.f6 Rows.alarmDeedsRow.domain false) (Rows.alarmDeedsSpec.post enc Try.prog Try.f6 false true false false) := by
  refine returnsInHanded_of_change (C := Try.checked) own started (by kernel_rfl) Try.func6
    (ChangeSpec.witness6 (enc := enc) (C := Try.checked) false ⟨#[], #[.int .i64 0, .slice none 0 0], []⟩ 8 (by kernel_rfl) (by kernel_rfl) (by kernel_rfl) (by kernel_rfl)) ?_
  intro W base args ds gs before hval0 hW hcnd _
  have hval : ∀ (j : Nat) t v, Try.f6.params[j]? = some t → args[j]? = some v → Value.okWide Try.prog W .any base t v := hval0
  have hW' := hW
  obtain ⟨p, q, hA0, hV, rfl, hfz, hnd⟩ := hW
  have hA : DataW.TrodAll enc Try.prog W 0 (fun _ => true) true Try.f6.params.toList args.toList ds p := hA0
  rw [Try.params6] at hA hval
  obtain ⟨v0, vs0, d0, ds0, p0, q0, hargs, rfl, rfl, h0, r0⟩ := trodAll_cons hA
  obtain ⟨v1, vs1, d1, ds1, p1, q1, rfl, rfl, rfl, h1, r1⟩ := trodAll_cons r0
  obtain ⟨rfl, rfl, rfl⟩ := trodAll_nil r1
  obtain rfl : args = #[v0, v1] := by cases args; simp_all
  obtain ⟨rfl, rfl⟩ := trodVars_none hV
  obtain ⟨a0, rfl, rfl, rfl, w0⟩ := open_int Try.underlying3 (hval 0 3 v0 rfl rfl) h0
  have k1 := h1
  have lt1 : ∀ x ∈ p1, x.block < W.heap.size := by obtain ⟨m, hm⟩ := k1; exact DataW.trod_lt m _ _ _ hm
  obtain ⟨s0, len0, cap0, rfl⟩ := okWide_slice Try.underlying22 (hval 1 22 v1 rfl rfl)
  obtain ⟨F0, F1, F2, hrd, hml, hwf⟩ := open_iii Try.underlying22 Try.underlying30 (by kernel_rfl) Try.underlying3 Try.underlying3 Try.underlying3 (by kernel_rfl) h1
  clear hA0 hval0
  refine (walk a0 s0 len0 cap0 F0 F1 F2 W (by unfold maxLen at hml; omega) hrd (fun i hi => wf_bd (hwf i hi).1)).mono fun e W' ⟨he, bel⟩ => ?_
  subst he
  exact ⟨_, rfl, _, _, _, [], _, [], hW', trodAll_mk1 (shut_bool Try.underlying4 _), (trodAll_cons_mk (shut_int Try.underlying3 w0) (trodAll_cons_mk (Below.trod laidOut (by kernel_rfl) (of_decide_eq_true (by kernel_rfl)) k1 bel lt1) trodAll_mk0)), rfl, bel.frame _, fun h => by cases h⟩

theorem over : Rows.alarmDeedsRow.holds Try.pinned (OpenSpec.ofChange Rows.alarmDeedsSpec) :=
  OpenClaim.holds_of_wide 6 Try.f6 rfl rfl rfl rfl rfl rfl rfl ⟨rfl, rfl, rfl, rfl, rfl⟩ rfl rfl rfl rfl rfl (by kernel_rfl) Try.func6 (by kernel_rfl)
    (of_decide_eq_true (by kernel_rfl)) (by unfold Func.isWrapper; first | (rw [if_pos (by decide +kernel)]; kernel_rfl) | (rw [if_neg (by decide +kernel)]; exact ⟨rfl, rfl⟩))
    (fun os started H enc _ => lifted os started H enc)

theorem proved : Rows.AlarmDeedsSaid := over
#print axioms proved
end Go.Proofs.Ytlhcefpdkoliaaa.alarmDeeds
