/- The reference's Tick. -/
import Derived.Test.YtlhcefpdkoliaaaRef
import Derived.RegionTactic
import Derived.BigRegion
namespace Go.Proofs.Ytlhcefpdkoliaaa
open Go.ChangeShapes Go.WideShapes Go.ChangeAt Go.RowKit Go.Deep Go.Maps
theorem own_apart {h q : Nat} {w : World} {base : Nat} {v : Value} {l : Nat} {ys : List Value} (hh : h < base) (hq : q < base) (ho : w.ownsRow base 3 1 v l ys) : some h ≠ v.ownBlock ∧ some q ≠ v.ownBlock :=
  ⟨fun e => by have := (ho.lt h e.symm).1; omega, fun e => by have := (ho.lt q e.symm).1; omega⟩
theorem tkTo_step {f : Nat → Int} {k : Nat} (x : Int) (hx : x = tk f k) (i : Nat) : upd (tkTo f k) k x i = tkTo f (k + 1) i := by
  unfold upd tkTo
  by_cases h2 : i = k
  · subst h2; rw [if_pos rfl, if_pos (by omega)]; exact hx
  · by_cases h1 : i < k
    · rw [if_neg h2, if_pos h1, if_pos (by omega)]
    · rw [if_neg h2, if_neg h1, if_neg (by omega)]
theorem tkTo_zero {f : Nat → Int} {k : Nat} (hx : f k = 0) (i : Nat) : tkTo f k i = tkTo f (k + 1) i := by
  unfold tkTo
  by_cases h2 : i = k
  · subst h2; rw [if_neg (by omega), if_pos (by omega)]; unfold tk; rw [if_pos hx, hx]
  · by_cases h1 : i < k
    · rw [if_pos h1, if_pos (by omega)]
    · rw [if_neg h1, if_neg (by omega)]

set_option maxRecDepth 100000 in
set_option maxHeartbeats 2000000 in
theorem rtick_any (h q n : Nat) (f : Nat → Int) (w : World) (r : RK h q n f w) (hf : ∀ k, k < n → 0 ≤ f k ∧ f k ≤ 10000) :
    Calls Try.prog 21 #[.pointer (some ⟨h, 0, none⟩)] w fun e w' => ∃ v, e = .returned v ∧ w'.ownsRow w.heap.size 3 1 v (dueL f n).length ((dueL f n).map (Value.int .i64)) ∧ RK h q n (tk f) w' ∧ w.grownBy w' (some q) := by
  have R := Lib.hid r; clear r
  have HF := Lib.hid hf; clear hf
  have hn1 := R.out.2.2.1
  have hn2 := R.out.2.2.2
  have hlt1 := R.out.1.lt
  have hlt2 := R.out.2.1.lt
  obtain ⟨i0, hi0, hz0, hz1, hz2⟩ := info_parts A_info3
  go_enter Try.func21, Try.ntmps21
  go_wp2_with fail
  go_loopw [3, 4] (fun v i wr => ∃ k : Nat, k ≤ n ∧ i = .int .i64 k ∧ wr.ownsRow w.heap.size 3 1 v (dueL f k).length ((dueL f k).map (Value.int .i64)) ∧ RK h q n (tkTo f k) wr ∧ w.grownBy wr (some q)) (fun _ i _ => n - (intOf i).toNat)
  case atStart => exact ⟨0, by omega, rfl, World.ownsRow_nil _ _ _ _, R.out.congr (fun k _ => by simp [tkTo]), only_refl _ _⟩
  case round =>
    obtain ⟨k, hk, rfl, hown, hak, hgr⟩ := hrel
    have c0 := hak.c0
    by_cases hlt : k < n
    · have hl := dueL_len f k
      obtain ⟨b1, b2⟩ := HF.out k hlt
      have hfk : tkTo f k k = f k := by simp [tkTo]
      have c1 := hak.cell k hlt
      rw [hfk] at c1
      have z1 := hak.frozen k
      have HAK := Lib.hid hak; clear hak
      have HOW := Lib.hid hown; clear hown
      have HGR := Lib.hid hgr; clear hgr hfk
      have hsz := HGR.out.size
      have p1 : (k : Int) < (n : Int) := by omega
      by_cases hf0 : f k = 0
      · have E : Hid (dueL f (k + 1) = dueL f k) := Lib.hid (by simp [dueL, hf0])
        have E2 := Lib.hid (tkTo_zero (f := f) (k := k) hf0)
        rw [hf0] at c1
        clear hf0 b1 b2
        go_wp2_with fail
        go_roundw
        case rel => exact ⟨k + 1, by omega, by go_num, by rw [E.out]; exact HOW.out, HAK.out.congr (fun i _ => E2.out i), HGR.out⟩
        case measure => simp [intOf]; omega
      · by_cases hf1 : f k = 1
        · have E : Hid (dueL f (k + 1) = dueL f k ++ [(k : Int)]) := Lib.hid (by simp [dueL, hf1])
          have E2 := Lib.hid (tkTo_step (f := f) (k := k) 0 (by unfold tk; rw [hf1]; decide))
          rw [hf1] at c1
          have HFK : Hid (tkTo f k k = 1) := Lib.hid (by simp [tkTo, hf1])
          clear hf0 hf1 b1 b2
          go_wp2_with (first | (at_builtin; refine wpList_append_own _ rfl _ _ 33 rfl w.heap.size 3 i0 (.int .i64 0) 1 8 Try.underlying33 hi0 hz0 hz1 hz2 rfl (by decide) _ _ _ rfl (HOW.out.alloc _) ⟨wr.heap.size, 0, none⟩ 1 1 [.int .i64 (k : Int)] rfl rfl (cell_one_new _ _ _) (ints_oneCell _ [(k : Int)]) (by unfold maxLen; omega) (by omega) (by simp; omega) ?_; intro v' w2 hown2 hgrow2 _; have hne := own_apart hlt1 hlt2 HOW.out; have hak2 := (HAK.out.alloc (.cells #[.int .i64 (k : Int)] 3)).kept hgrow2 hne.1 hne.2; have hg2 : w.grownBy w2 (some q) := only_trans (only_alloc HGR.out _) hgrow2 (fun j hj => .inr (HOW.out.lt j hj).1); have d0 := hak2.c0; have d1 := (hak2.cell k hlt).trans (congrArg (fun x : Int => some (Value.int .i64 x)) HFK.out); have e1 := hak2.frozen k; have HAK2 := Lib.hid hak2; have HG2 := Lib.hid hg2; have HOW2 := Lib.hid hown2; clear hown2 hgrow2 hak2 hg2 hne))
          go_region
          have hr3 : RK h q n (tkTo f (k + 1)) (w2.setCell ⟨q, k, none⟩ (.int .i64 0)).drew := ((HAK2.out.stored k 0).drewN 1).congr (fun i _ => E2.out i)
          have hg3 : w.grownBy (w2.setCell ⟨q, k, none⟩ (.int .i64 0)).drew (some q) := only_drew (only_setCell HG2.out (.inl rfl) _)
          have ho3 : (w2.setCell ⟨q, k, none⟩ (.int .i64 0)).drew.ownsRow w.heap.size 3 1 v' ((dueL f k).length + 1) ((dueL f k).map (Value.int .i64) ++ [Value.int .i64 k]) := (ownsRow_setCell_below HOW2.out hlt2 _).drew
          have HR3 := Lib.hid hr3; clear hr3
          have HG3 := Lib.hid hg3; clear hg3
          have HO3 := Lib.hid ho3; clear ho3
          go_wp2_with fail
          go_roundw
          case rel => exact ⟨k + 1, by omega, by go_num, by rw [E.out]; simpa using HO3.out, HR3.out, HG3.out⟩
          case measure => simp [intOf]; omega
        · have hx1 : (f k == 1) = false := by simp [hf1]
          have E : Hid (dueL f (k + 1) = dueL f k) := Lib.hid (by simp [dueL, hf1])
          have E2 := Lib.hid (tkTo_step (f := f) (k := k) (f k - 1) (by unfold tk; rw [if_neg hf0]))
          have p2 : 0 < f k := by omega
          have p3 : f k ≤ 10000 := b2
          clear hf0 hf1 b1 b2
          generalize f k = x at *
          go_wp2_with fail
          go_region
          have hr3 : RK h q n (tkTo f (k + 1)) (wr.setCell ⟨q, k, none⟩ (.int .i64 (x - 1))).drew := ((HAK.out.stored k (x - 1)).drewN 1).congr (fun i _ => E2.out i)
          have hg3 : w.grownBy (wr.setCell ⟨q, k, none⟩ (.int .i64 (x - 1))).drew (some q) := only_drew (only_setCell HGR.out (.inl rfl) _)
          have ho3 : (wr.setCell ⟨q, k, none⟩ (.int .i64 (x - 1))).drew.ownsRow w.heap.size 3 1 _ (dueL f k).length ((dueL f k).map (Value.int .i64)) := (ownsRow_setCell_below HOW.out hlt2 _).drew
          have HR3 := Lib.hid hr3; clear hr3
          have HG3 := Lib.hid hg3; clear hg3
          have HO3 := Lib.hid ho3; clear ho3
          go_wp2_with fail
          go_roundw
          case rel => exact ⟨k + 1, by omega, by go_num, by rw [E.out]; exact HO3.out, HR3.out, HG3.out⟩
          case measure => simp [intOf]; omega
    · obtain rfl : k = n := by omega
      go_wp2_with fail
      go_ret
      exact ⟨_, rfl, hown, hak.congr (fun i hi => by simp [tkTo, hi]), hgr⟩
end Go.Proofs.Ytlhcefpdkoliaaa
