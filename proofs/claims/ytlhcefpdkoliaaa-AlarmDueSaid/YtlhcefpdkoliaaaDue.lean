/-
  hauberklaw08.AlarmDue returns true for every l, and its argument reads as before. No condition.
  The frame (lifted, over, proved) is a print of a program, after the way of the seat's proof-skeleton.
-/
import Derived.Test.YtlhcefpdkoliaaaWorks
import Derived.Test.YtlhcefpdkoliaaaSeq
namespace Go.Proofs.Ytlhcefpdkoliaaa.alarmDue
open Go.ChangeShapes Go.WideShapes Go.ChangeAt Go.RowKit Go.Deep
set_option linter.unusedVariables false

section
variable {w0 w w' : World} {g m n : Nat} {f : Nat → Int}
theorem own1 {base : Nat} {v : Value} {l : Nat} {ys : List Value} (h : S1 w0 g m n f w) (hb : w0.heap.size ≤ base) (ho : w.ownsRow base 3 1 v l ys) (hg : w.grownBy w' v.ownBlock) : S1 w0 g m n f w' :=
  ⟨h.1.grown hg (by have := h.1.size; omega) (fun j hj => Nat.le_trans hb (ho.lt j hj).1), h.2.1, h.2.2.1,
    h.2.2.2.kept hg (fun e => own_blk_ne ho h.2.2.2.1 (by decide) e.symm) (fun e => own_map_ne ho h.2.2.2.2.1 e.symm)⟩
end
/-- What each timer has left at tick t, when those below j have had their turn to be set. -/
def St (a b : Nat → Int) (K t j : Nat) : Nat → Int := fun i => if i < K ∧ (a i < t ∨ (a i = t ∧ i < j)) ∧ (t : Int) < a i + b i then a i + b i - t else 0
/-- The timers that are due at tick t. -/
def wl (a b : Nat → Int) (t : Nat) : Nat → List Int
  | 0 => []
  | k + 1 => if a k + b k = (t : Int) + 1 then wl a b t k ++ [(k : Int)] else wl a b t k
section
variable {a b : Nat → Int} {K t k : Nat}
theorem wl_len (a b : Nat → Int) (t k : Nat) : (wl a b t k).length ≤ k := by
  induction k with
  | zero => simp [wl]
  | succ k ih => simp only [wl]; split <;> (try simp) <;> omega
theorem wl_in (h : a k + b k = (t : Int) + 1) : wl a b t (k + 1) = wl a b t k ++ [(k : Int)] := by simp only [wl]; rw [if_pos h]
theorem wl_out (h : ¬ a k + b k = (t : Int) + 1) : wl a b t (k + 1) = wl a b t k := by simp only [wl]; rw [if_neg h]
theorem St_zero (ha : ∀ i, 0 ≤ a i) (i : Nat) : (0 : Int) = St a b K 0 0 i := by
  have := ha i
  unfold St
  rw [if_neg (by omega)]
theorem St_set (h1 : a k = (t : Int)) (hk : k < K) (hK : K ≤ 16) (hb : 1 ≤ b k) (hb2 : b k ≤ 60) (i : Nat) : setS 16 (St a b K t k) k (b k) i = St a b K t (k + 1) i := by
  unfold setS
  rw [if_neg (by omega)]
  unfold upd
  by_cases h : i = k
  · subst h
    rw [if_pos (by omega)]
    unfold St
    rw [if_pos (by omega)]
    omega
  · rw [if_neg (by omega)]
    unfold St
    by_cases hc : i < K ∧ (a i < t ∨ (a i = t ∧ i < k)) ∧ (t : Int) < a i + b i
    · rw [if_pos hc, if_pos (by omega)]
    · rw [if_neg hc, if_neg (by omega)]
theorem St_skip (h1 : ¬ a k = (t : Int)) (i : Nat) : St a b K t k i = St a b K t (k + 1) i := by
  unfold St
  by_cases hi : i = k
  · subst hi
    by_cases hc : i < K ∧ (a i < t ∨ (a i = t ∧ i < i)) ∧ (t : Int) < a i + b i
    · rw [if_pos hc, if_pos (by omega)]
    · rw [if_neg hc, if_neg (by omega)]
  · by_cases hc : i < K ∧ (a i < t ∨ (a i = t ∧ i < k)) ∧ (t : Int) < a i + b i
    · rw [if_pos hc, if_pos (by omega)]
    · rw [if_neg hc, if_neg (by omega)]
theorem St_next (i : Nat) : tk (St a b K t K) i = St a b K (t + 1) 0 i := by
  unfold tk St
  by_cases hc : i < K ∧ (a i < t ∨ (a i = t ∧ i < K)) ∧ (t : Int) < a i + b i
  · rw [if_pos hc]
    rw [if_neg (by omega)]
    by_cases hd : i < K ∧ (a i < ((t + 1 : Nat) : Int) ∨ (a i = ((t + 1 : Nat) : Int) ∧ i < 0)) ∧ ((t + 1 : Nat) : Int) < a i + b i
    · rw [if_pos hd]; omega
    · rw [if_neg hd]; omega
  · rw [if_neg hc, if_pos rfl, if_neg (by omega)]
theorem dueL_zero (f : Nat → Int) (K d : Nat) (h : ∀ i, K ≤ i → f i = 0) : dueL f (K + d) = dueL f K := by
  induction d with
  | zero => rfl
  | succ d ih => rw [← Nat.add_assoc]; simp only [dueL]; rw [if_neg (by rw [h _ (by omega)]; decide)]; exact ih
theorem dueL_wl (hb : ∀ i, 1 ≤ b i) (k : Nat) (hk : k ≤ K) : dueL (St a b K t K) k = wl a b t k := by
  induction k with
  | zero => rfl
  | succ k ih =>
    have hbk := hb k
    have ih := ih (by omega)
    by_cases h : a k + b k = (t : Int) + 1
    · rw [wl_in h]
      simp only [dueL]
      rw [if_pos (by unfold St; rw [if_pos (by omega)]; omega), ih]
    · rw [wl_out h]
      simp only [dueL]
      rw [if_neg ?_, ih]
      unfold St
      by_cases hc : k < K ∧ (a k < t ∨ (a k = t ∧ k < K)) ∧ (t : Int) < a k + b k
      · rw [if_pos hc]; omega
      · rw [if_neg hc]; omega
theorem St_due (hb : ∀ i, 1 ≤ b i) (hK : K ≤ 16) : dueL (St a b K t K) 16 = wl a b t K := by
  obtain ⟨d, hd⟩ : ∃ d, 16 = K + d := ⟨16 - K, by omega⟩
  rw [hd, dueL_zero _ _ _ (fun i hi => by unfold St; rw [if_neg (by omega)]), dueL_wl hb K (Nat.le_refl _)]
theorem St_left (hk : k < K) (hK : K ≤ 16) : leftR 16 (St a b K t (k + 1)) k = if (t : Int) < a k ∨ a k + b k - t < 0 then 0 else a k + b k - t := by
  unfold leftR
  rw [if_neg (by omega)]
  show St a b K t (k + 1) k = _
  unfold St
  by_cases h : (t : Int) < a k ∨ a k + b k - t < 0
  · rw [if_pos h, if_neg (by omega)]
  · rw [if_neg h]
    by_cases hc : (t : Int) < a k + b k
    · rw [if_pos (by omega)]
    · rw [if_neg (by omega)]; omega
end

set_option maxRecDepth 1000000 in
set_option maxHeartbeats 32000000 in
theorem walk (A : Option Addr) (len cap : Nat) (F0 F1 : Nat → Int) (w : World) (hl : len ≤ 9223372036854775807)
    (hA : Rd w 2 A len (fun i => [.int .i64 (F0 i), .int .i64 (F1 i)]))
    (hb : ∀ i, i < len → (-9223372036854775808 ≤ F0 i ∧ F0 i ≤ 9223372036854775807) ∧ (-9223372036854775808 ≤ F1 i ∧ F1 i ≤ 9223372036854775807)) :
    Calls Try.prog 5 #[.slice A len cap] w fun e w' => e = .returned (.bool true) ∧ Below w.heap.size w w' := by
  obtain ⟨a, ha⟩ : ∃ a : Nat → Int, ∀ i, F0 i % 30 = a i := ⟨_, fun _ => rfl⟩
  obtain ⟨b, hbb⟩ : ∃ b : Nat → Int, ∀ i, 1 + F1 i % 60 = b i := ⟨_, fun _ => rfl⟩
  have ha0 : ∀ i, 0 ≤ a i ∧ a i < 30 := fun i => by rw [← ha i]; omega
  have hb0 : ∀ i, 1 ≤ b i ∧ b i ≤ 60 := fun i => by rw [← hbb i]; omega
  obtain ⟨K, hK1, hK2, hK3⟩ : ∃ K, K ≤ len ∧ K ≤ 16 ∧ (K = len ∨ K = 16) := ⟨min len 16, by omega, by omega, by omega⟩
  have HA := Lib.hid hA; clear hA
  have HB := Lib.hid hb; clear hb
  have HF := Lib.hid (And.intro ha hbb); clear ha hbb
  have HF0 := Lib.hid (And.intro ha0 hb0); clear ha0 hb0
  obtain ⟨i0, hi0, hz0, hz1, hz2⟩ := info_parts A_info3
  go_enter Try.func5, Try.ntmps5
  go_wp2_with fail
  refine (works_any _).mono ?_; rintro e w1 ⟨rfl, hb1⟩
  have L1 := Lib.hid hb1; clear hb1
  go_wp2_with fail
  refine (new_any 16 _ (by omega) (by omega)).mono ?_; rintro e w2 ⟨rfl, hw2⟩
  have l2 : S1 w (w1.heap.size + 1) w1.heap.size 16 (St a b K 0 0) w2 := by
    have e1 := L1.out.size
    rw [hw2]
    exact ⟨(L1.out.alloc L1.out.size _).alloc (by have := L1.out.size; simp; omega) _, by omega, e1, (new_ak 16 w1 (by omega) (by omega)).congr (fun i _ => St_zero (fun i => (HF0.out.1 i).1) i)⟩
  clear hw2 L1
  have Q0 := Lib.hid l2; clear l2
  obtain ⟨g, hg⟩ : ∃ g, g = w1.heap.size + 1 := ⟨_, rfl⟩
  rw [← hg] at Q0 ⊢
  clear hg
  generalize w1.heap.size = m at *
  go_wp2_with fail
  go_loopw [5] (fun i wr => ∃ t : Nat, t ≤ 100 ∧ i = .int .i64 t ∧ S1 w g m 16 (St a b K t 0) wr) (fun i _ => 100 - (intOf i).toNat)
  case atStart => exact ⟨0, by omega, rfl, Q0.out⟩
  case round =>
    clear Q0
    obtain ⟨t, ht, rfl, hq⟩ := hrel
    by_cases ht2 : t < 100
    · have t1 : (t : Int) < 100 := by omega
      have Q1 := Lib.hid hq; clear hq
      go_wp2_with fail
      go_loopw [6, 7] (fun v i wr => ∃ j : Nat, j ≤ K ∧ i = .int .i64 j ∧ wr.ownsRow w.heap.size 3 1 v (wl a b t j).length ((wl a b t j).map (Value.int .i64)) ∧ S1 w g m 16 (St a b K t j) wr) (fun _ i _ => K - (intOf i).toNat)
      case atStart => exact ⟨0, by omega, rfl, World.ownsRow_nil _ _ _ _, Q1.out⟩
      case round =>
        clear Q1
        obtain ⟨j, hj, rfl, how, hs⟩ := hrel
        have hwl := wl_len a b t j
        by_cases hjK : j < K
        · obtain ⟨b0, off, rfl, hbl, hc⟩ := HA.out j (by omega)
          have hc0 : wr.drew.cell? ⟨b0, off + j * 2, none⟩ = some (.int .i64 (F0 j)) := (hs.1.cell (p := ⟨b0, off + j * 2, none⟩) hbl).trans (hc 0 _ rfl)
          have hc1 : wr.drew.cell? ⟨b0, off + j * 2 + 1, none⟩ = some (.int .i64 (F1 j)) := (hs.1.cell (p := ⟨b0, off + j * 2 + 1, none⟩) hbl).trans (hc 1 _ rfl)
          clear hc HA
          obtain ⟨⟨u1, u2⟩, ⟨u3, u4⟩⟩ := HB.out j (by omega)
          have hxa := HF.out.1 j
          have hyb := HF.out.2 j
          obtain ⟨x0, x1⟩ := HF0.out.1 j
          obtain ⟨y0, y1⟩ := HF0.out.2 j
          generalize F0 j = kd at *
          generalize F1 j = tc at *
          have p1 : (0 : Int) ≤ (j : Int) := by omega
          have p2 : (j : Int) < (len : Int) := by omega
          have p3 : (j : Int) < 16 := by omega
          have HQ := Lib.hid hs; clear hs
          have HOW := Lib.hid how; clear how
          go_wp2_with fail
          have hS0 : wr.drew.cell? ⟨b0, off + j * 2, none⟩ = some (.int .i64 kd) ∧ wr.drew.cell? ⟨b0, off + j * 2 + 1, none⟩ = some (.int .i64 tc) := ⟨hc0, hc1⟩
          clear hc0 hc1
          refine region_seq [(0, true), (1, true), (2, true), (3, true), (4, true), (6, true), (7, true), (8, true), (9, true), (10, true), (5, false), (11, false), (12, true), (13, true), (14, true)] (fun w1 => w1.cell? ⟨b0, off + j * 2, none⟩ = some (.int .i64 kd) ∧ w1.cell? ⟨b0, off + j * 2 + 1, none⟩ = some (.int .i64 tc)) (by kernel_rfl) (by kernel_rfl) (Nat.le_of_eq (by kernel_rfl)) (by kernel_rfl) (fun _ _ _ _ _ h => h) ?_
          refine seq_take (by rfl) (by rfl) hS0 (v := ?_) ?_ ?_
          rotate_left
          · intro w1 hSw; (try dsimp only at hSw); simp only [List.getElem_toArray, List.getElem_cons_zero]; (try go_simp); try with_reducible rfl
          simp only [Act.put, List.getElem_toArray, List.getElem_cons_zero, List.setIfInBounds_toArray, List.set_cons_zero, List.set_cons_succ]
          refine seq_take (by rfl) (by rfl) hS0 (v := ?_) ?_ ?_
          rotate_left
          · intro w1 hSw; (try dsimp only at hSw); simp only [List.getElem_toArray, List.getElem_cons_zero, List.getElem_cons_succ]; (try go_simp); try with_reducible rfl
          simp only [Act.put, List.getElem_toArray, List.getElem_cons_zero, List.getElem_cons_succ, List.setIfInBounds_toArray, List.set_cons_zero, List.set_cons_succ]
          refine seq_take (by rfl) (by rfl) hS0 (v := ?_) ?_ ?_
          rotate_left
          · intro w1 hSw; (try dsimp only at hSw); simp only [List.getElem_toArray, List.getElem_cons_zero, List.getElem_cons_succ]; (try go_simp); try with_reducible rfl
          simp only [Act.put, List.getElem_toArray, List.getElem_cons_zero, List.getElem_cons_succ, List.setIfInBounds_toArray, List.set_cons_zero, List.set_cons_succ]
          refine seq_take (by rfl) (by rfl) hS0 (v := ?_) ?_ ?_
          rotate_left
          · intro w1 hSw; (try dsimp only at hSw); simp only [List.getElem_toArray, List.getElem_cons_zero, List.getElem_cons_succ]; (try go_simp); try with_reducible rfl
          simp only [Act.put, List.getElem_toArray, List.getElem_cons_zero, List.getElem_cons_succ, List.setIfInBounds_toArray, List.set_cons_zero, List.set_cons_succ]
          refine seq_take (by rfl) (by rfl) hS0 (v := ?_) ?_ ?_
          rotate_left
          · intro w1 hSw; (try dsimp only at hSw); simp only [List.getElem_toArray, List.getElem_cons_zero, List.getElem_cons_succ]; (try go_simp); try with_reducible rfl
          simp only [Act.put, List.getElem_toArray, List.getElem_cons_zero, List.getElem_cons_succ, List.setIfInBounds_toArray, List.set_cons_zero, List.set_cons_succ]
          refine seq_take (by rfl) (by rfl) hS0 (v := ?_) ?_ ?_
          rotate_left
          · intro w1 hSw; (try dsimp only at hSw); simp only [List.getElem_toArray, List.getElem_cons_zero, List.getElem_cons_succ]; (try go_simp); try with_reducible rfl
          simp only [Act.put, List.getElem_toArray, List.getElem_cons_zero, List.getElem_cons_succ, List.setIfInBounds_toArray, List.set_cons_zero, List.set_cons_succ]
          refine seq_take (by rfl) (by rfl) hS0 (v := ?_) ?_ ?_
          rotate_left
          · intro w1 hSw; (try dsimp only at hSw); simp only [List.getElem_toArray, List.getElem_cons_zero, List.getElem_cons_succ]; (try go_simp); try with_reducible rfl
          simp only [Act.put, List.getElem_toArray, List.getElem_cons_zero, List.getElem_cons_succ, List.setIfInBounds_toArray, List.set_cons_zero, List.set_cons_succ]
          refine seq_take (by rfl) (by rfl) hS0 (v := ?_) ?_ ?_
          rotate_left
          · intro w1 hSw; (try dsimp only at hSw); simp only [List.getElem_toArray, List.getElem_cons_zero, List.getElem_cons_succ]; (try go_simp); try with_reducible rfl
          simp only [Act.put, List.getElem_toArray, List.getElem_cons_zero, List.getElem_cons_succ, List.setIfInBounds_toArray, List.set_cons_zero, List.set_cons_succ]
          refine seq_take (by rfl) (by rfl) hS0 (v := ?_) ?_ ?_
          rotate_left
          · intro w1 hSw; (try dsimp only at hSw); simp only [List.getElem_toArray, List.getElem_cons_zero, List.getElem_cons_succ]; (try go_simp); try with_reducible rfl
          simp only [Act.put, List.getElem_toArray, List.getElem_cons_zero, List.getElem_cons_succ, List.setIfInBounds_toArray, List.set_cons_zero, List.set_cons_succ]
          refine seq_take (by rfl) (by rfl) hS0 (v := ?_) ?_ ?_
          rotate_left
          · intro w1 hSw; (try dsimp only at hSw); simp only [List.getElem_toArray, List.getElem_cons_zero, List.getElem_cons_succ]; (try go_simp); try with_reducible rfl
          simp only [Act.put, List.getElem_toArray, List.getElem_cons_zero, List.getElem_cons_succ, List.setIfInBounds_toArray, List.set_cons_zero, List.set_cons_succ]
          refine seq_call (by rfl) (by rfl) ?_
          intro K hK
          simp only [List.getElem_toArray, List.getElem_cons_zero, List.getElem_cons_succ]
          go_simp
          refine (bring_any kd 30 _ u1 u2 (by omega) (by omega)).mono ?_; rintro e w1 ⟨rfl, rfl⟩
          refine hK _ _ hS0 ?_
          clear hK K
          refine seq_call (by rfl) (by rfl) ?_
          intro K hK
          simp only [List.getElem_toArray, List.getElem_cons_zero, List.getElem_cons_succ]
          go_simp
          refine (bring_any tc 60 _ u3 u4 (by omega) (by omega)).mono ?_; rintro e w1 ⟨rfl, rfl⟩
          refine hK _ _ hS0 ?_
          clear hK K
          refine seq_take (by rfl) (by rfl) hS0 (v := ?_) ?_ ?_
          rotate_left
          · intro w1 hSw; (try dsimp only at hSw); simp only [List.getElem_toArray, List.getElem_cons_zero, List.getElem_cons_succ]; (try go_simp); try with_reducible rfl
          simp only [Act.put, List.getElem_toArray, List.getElem_cons_zero, List.getElem_cons_succ, List.setIfInBounds_toArray, List.set_cons_zero, List.set_cons_succ]
          refine seq_take (by rfl) (by rfl) hS0 (v := ?_) ?_ ?_
          rotate_left
          · intro w1 hSw; (try dsimp only at hSw); simp only [List.getElem_toArray, List.getElem_cons_zero, List.getElem_cons_succ]; (try go_simp); try with_reducible rfl
          simp only [Act.put, List.getElem_toArray, List.getElem_cons_zero, List.getElem_cons_succ, List.setIfInBounds_toArray, List.set_cons_zero, List.set_cons_succ]
          refine seq_take (by rfl) (by rfl) hS0 (v := ?_) ?_ ?_
          rotate_left
          · intro w1 hSw; (try dsimp only at hSw); simp only [List.getElem_toArray, List.getElem_cons_zero, List.getElem_cons_succ]; (try go_simp); try with_reducible rfl
          simp only [Act.put, List.getElem_toArray, List.getElem_cons_zero, List.getElem_cons_succ, List.setIfInBounds_toArray, List.set_cons_zero, List.set_cons_succ]
          refine seq_done ?_
          clear hS0
          rw [wrap_small (b j) (by omega) (by omega)]
          clear hxa hyb u1 u2 u3 u4
          have hq := HQ.out.drewN 1
          replace hq : S1 w g m 16 (St a b K t j) wr.drew := hq
          have how := HOW.out.drew
          clear HQ HOW
          generalize wr.drew = W1 at *
          by_cases hx : a j = (t : Int)
          · have h1 : (a j == (t : Int)) = true := by simp [hx]
            have hR : setR 16 (j : Int) (b j) = 0 := by unfold setR; rw [if_neg (by omega)]
            have HQ := Lib.hid hq; clear hq
            have HOW := Lib.hid how; clear how
            have n1 : ¬ (t : Int) < a j := by omega
            have n2 : ¬ a j + b j - t < 0 := by omega
            go_wp2_with fail
            refine (set_any g m 16 _ j (b j) _ HQ.out.2.2.2).mono ?_; rintro e w4 ⟨he, hk4, hg4⟩
            rw [hR] at he
            subst he
            have hq4 := (HQ.out.keep hk4 hg4).congr (fun i _ => St_set hx hjK hK2 y0 y1 i)
            have how4 := HOW.out.kept hg4 (.inr (own_map_ne HOW.out HQ.out.2.2.2.2.1))
            clear HQ HOW hk4 hg4 h1 hR
            have HQ2 := Lib.hid hq4; clear hq4
            have HOW := Lib.hid how4; clear how4
            by_cases hw : a j + b j = (t : Int) + 1
            · have h2 : (a j + b j == (t : Int) + 1) = true := by simp; omega
              have hsz := HQ2.out.1.size
              go_wp2_with (first | (at_builtin; refine wpList_append_own _ rfl _ _ 33 rfl w.heap.size 3 i0 (.int .i64 0) 1 8 Try.underlying33 hi0 hz0 hz1 hz2 rfl (by decide) _ _ _ rfl (HOW.out.alloc _) ⟨w4.heap.size, 0, none⟩ 1 1 [.int .i64 (j : Int)] rfl rfl (cell_one_new _ _ _) (ints_oneCell _ [(j : Int)]) (by unfold maxLen; omega) (by omega) (by simp; omega) ?_; intro v' w2 hown2 hgrow2 _))
              have hq3 := own1 (HQ2.out.alloc (.cells #[.int .i64 (j : Int)] 3)) (Nat.le_refl _) (HOW.out.alloc (.cells #[.int .i64 (j : Int)] 3)) hgrow2
              clear HQ2 HOW hgrow2
              have HQ2 := Lib.hid hq3; clear hq3
              have HOW : Hid (w2.ownsRow w.heap.size 3 1 v' (wl a b t (j + 1)).length ((wl a b t (j + 1)).map (Value.int .i64))) := Lib.hid (by rw [wl_in hw]; simpa using hown2)
              clear hown2
              refine (left_any g m 16 _ j _ HQ2.out.2.2.2).mono ?_; rintro e w' ⟨he, rfl⟩
              rw [St_left hjK hK2, if_neg (by omega)] at he
              subst he
              go_wp2_with fail
              go_roundw
              case rel => exact ⟨j + 1, by omega, by go_num, HOW.out, HQ2.out⟩
              case measure => simp [intOf]; omega
            · have h2 : (a j + b j == (t : Int) + 1) = false := by simp; omega
              have HOW : Hid (World.ownsRow w4 w.heap.size 3 1 _ (wl a b t (j + 1)).length ((wl a b t (j + 1)).map (Value.int .i64))) := Lib.hid (by rw [wl_out hw]; exact HOW.out)
              go_wp2_with fail
              refine (left_any g m 16 _ j _ HQ2.out.2.2.2).mono ?_; rintro e w' ⟨he, rfl⟩
              rw [St_left hjK hK2, if_neg (by omega)] at he
              subst he
              go_wp2_with fail
              go_roundw
              case rel => exact ⟨j + 1, by omega, by go_num, HOW.out, HQ2.out⟩
              case measure => simp [intOf]; omega
          · have h1 : (a j == (t : Int)) = false := by simpa using hx
            have hq4 := hq.congr (fun i _ => St_skip hx i)
            clear hq
            have HQ2 := Lib.hid hq4; clear hq4
            have HOW := Lib.hid how; clear how
            by_cases hw : a j + b j = (t : Int) + 1
            · have h2 : (a j + b j == (t : Int) + 1) = true := by simp; omega
              have n1 : ¬ (t : Int) < a j := by omega
              have n2 : ¬ a j + b j - t < 0 := by omega
              have hsz := HQ2.out.1.size
              go_wp2_with (first | (at_builtin; refine wpList_append_own _ rfl _ _ 33 rfl w.heap.size 3 i0 (.int .i64 0) 1 8 Try.underlying33 hi0 hz0 hz1 hz2 rfl (by decide) _ _ _ rfl (HOW.out.alloc _) ⟨W1.heap.size, 0, none⟩ 1 1 [.int .i64 (j : Int)] rfl rfl (cell_one_new _ _ _) (ints_oneCell _ [(j : Int)]) (by unfold maxLen; omega) (by omega) (by simp; omega) ?_; intro v' w2 hown2 hgrow2 _))
              have hq3 := own1 (HQ2.out.alloc (.cells #[.int .i64 (j : Int)] 3)) (Nat.le_refl _) (HOW.out.alloc (.cells #[.int .i64 (j : Int)] 3)) hgrow2
              clear HQ2 HOW hgrow2
              have HQ2 := Lib.hid hq3; clear hq3
              have HOW : Hid (w2.ownsRow w.heap.size 3 1 v' (wl a b t (j + 1)).length ((wl a b t (j + 1)).map (Value.int .i64))) := Lib.hid (by rw [wl_in hw]; simpa using hown2)
              clear hown2
              refine (left_any g m 16 _ j _ HQ2.out.2.2.2).mono ?_; rintro e w' ⟨he, rfl⟩
              rw [St_left hjK hK2, if_neg (by omega)] at he
              subst he
              go_wp2_with fail
              go_roundw
              case rel => exact ⟨j + 1, by omega, by go_num, HOW.out, HQ2.out⟩
              case measure => simp [intOf]; omega
            · by_cases n1 : (t : Int) < a j
              · have h2 : (a j + b j == (t : Int) + 1) = false := by simp; omega
                have HOW : Hid (World.ownsRow W1 w.heap.size 3 1 _ (wl a b t (j + 1)).length ((wl a b t (j + 1)).map (Value.int .i64))) := Lib.hid (by rw [wl_out hw]; exact HOW.out)
                go_wp2_with fail
                refine (left_any g m 16 _ j _ HQ2.out.2.2.2).mono ?_; rintro e w' ⟨he, rfl⟩
                rw [St_left hjK hK2, if_pos (by omega)] at he
                subst he
                go_wp2_with fail
                go_roundw
                case rel => exact ⟨j + 1, by omega, by go_num, HOW.out, HQ2.out⟩
                case measure => simp [intOf]; omega
              · by_cases n2 : a j + b j - t < 0
                · have h2 : (a j + b j == (t : Int) + 1) = false := by simp; omega
                  have HOW : Hid (World.ownsRow W1 w.heap.size 3 1 _ (wl a b t (j + 1)).length ((wl a b t (j + 1)).map (Value.int .i64))) := Lib.hid (by rw [wl_out hw]; exact HOW.out)
                  go_wp2_with fail
                  refine (left_any g m 16 _ j _ HQ2.out.2.2.2).mono ?_; rintro e w' ⟨he, rfl⟩
                  rw [St_left hjK hK2, if_pos (by omega)] at he
                  subst he
                  go_wp2_with fail
                  go_roundw
                  case rel => exact ⟨j + 1, by omega, by go_num, HOW.out, HQ2.out⟩
                  case measure => simp [intOf]; omega
                · have h2 : (a j + b j == (t : Int) + 1) = false := by simp; omega
                  have HOW : Hid (World.ownsRow W1 w.heap.size 3 1 _ (wl a b t (j + 1)).length ((wl a b t (j + 1)).map (Value.int .i64))) := Lib.hid (by rw [wl_out hw]; exact HOW.out)
                  go_wp2_with fail
                  refine (left_any g m 16 _ j _ HQ2.out.2.2.2).mono ?_; rintro e w' ⟨he, rfl⟩
                  rw [St_left hjK hK2, if_neg (by omega)] at he
                  subst he
                  go_wp2_with fail
                  go_roundw
                  case rel => exact ⟨j + 1, by omega, by go_num, HOW.out, HQ2.out⟩
                  case measure => simp [intOf]; omega
        · obtain rfl : j = K := by omega
          have HSW := Lib.hid hs; clear hs
          have hil := IL.of_own how
          have HIL := Lib.hid hil; clear hil how
          rcases hK3 with hK3 | hK3
          · have p2 : ¬ (j : Int) < (len : Int) := by omega
            clear hK3
            go_wp2_with fail
            refine (due_any HSW.out.2.2.2).mono ?_; rintro e w5 ⟨vd, rfl, hvd, hk5, hg5⟩
            rw [St_due (fun i => (HF0.out.2 i).1) hK2] at hvd
            have hil5 := HIL.out.map HSW.out.2.2.2.2.1 hg5
            have hs5 := (HSW.out.keep hk5 hg5).congr (fun i _ => St_next i)
            clear hk5 hg5 HSW HIL
            have HS5 := Lib.hid hs5; clear hs5
            go_wp2_with fail
            refine (eq_any _ _ _ _ _ hvd hil5 (by omega) (by omega)).mono ?_; rintro e w' ⟨rfl, nq, rfl⟩
            clear hvd hil5
            have hs6 := HS5.out.drewN nq
            clear HS5
            go_wp2_with fail
            go_roundw
            case rel => exact ⟨t + 1, by omega, by go_num, hs6⟩
            case measure => simp [intOf]; omega
          · by_cases hlen : j = len
            · have p2 : ¬ (j : Int) < (len : Int) := by omega
              go_wp2_with fail
              refine (due_any HSW.out.2.2.2).mono ?_; rintro e w5 ⟨vd, rfl, hvd, hk5, hg5⟩
              rw [St_due (fun i => (HF0.out.2 i).1) hK2] at hvd
              have hil5 := HIL.out.map HSW.out.2.2.2.2.1 hg5
              have hs5 := (HSW.out.keep hk5 hg5).congr (fun i _ => St_next i)
              clear hk5 hg5 HSW HIL
              have HS5 := Lib.hid hs5; clear hs5
              go_wp2_with fail
              refine (eq_any _ _ _ _ _ hvd hil5 (by omega) (by omega)).mono ?_; rintro e w' ⟨rfl, nq, rfl⟩
              clear hvd hil5
              have hs6 := HS5.out.drewN nq
              clear HS5
              go_wp2_with fail
              go_roundw
              case rel => exact ⟨t + 1, by omega, by go_num, hs6⟩
              case measure => simp [intOf]; omega
            · have p2 : (j : Int) < (len : Int) := by omega
              have p3 : ¬ (j : Int) < 16 := by omega
              go_wp2_with fail
              refine (due_any HSW.out.2.2.2).mono ?_; rintro e w5 ⟨vd, rfl, hvd, hk5, hg5⟩
              rw [St_due (fun i => (HF0.out.2 i).1) hK2] at hvd
              have hil5 := HIL.out.map HSW.out.2.2.2.2.1 hg5
              have hs5 := (HSW.out.keep hk5 hg5).congr (fun i _ => St_next i)
              clear hk5 hg5 HSW HIL
              have HS5 := Lib.hid hs5; clear hs5
              go_wp2_with fail
              refine (eq_any _ _ _ _ _ hvd hil5 (by omega) (by omega)).mono ?_; rintro e w' ⟨rfl, nq, rfl⟩
              clear hvd hil5
              have hs6 := HS5.out.drewN nq
              clear HS5
              go_wp2_with fail
              go_roundw
              case rel => exact ⟨t + 1, by omega, by go_num, hs6⟩
              case measure => simp [intOf]; omega
    · have hb := hq.1
      clear hq
      go_wp2_with fail
      go_ret
      exact ⟨rfl, hb⟩

set_option maxRecDepth 100000 in
theorem lifted (os : Os) (started : os.Started) (H : Type) (enc : TypeId × Value → H) :
    ReturnsInHanded {} Try.checked os 5 .any (Rows.alarmDueSpec.pre6 enc Try.prog Try.f5 Rows.alarmDueRow.domain false) (Rows.alarmDueSpec.post enc Try.prog Try.f5 false true false false) := by
  refine returnsInHanded_of_change (C := Try.checked) own started (by kernel_rfl) Try.func5
    (ChangeSpec.witness6 (enc := enc) (C := Try.checked) false ⟨#[], #[.slice none 0 0], []⟩ 8 (by kernel_rfl) (by kernel_rfl) (by kernel_rfl) (by kernel_rfl)) ?_
  intro W base args ds gs before hval0 hW hcnd _
  have hval : ∀ (j : Nat) t v, Try.f5.params[j]? = some t → args[j]? = some v → Value.okWide Try.prog W .any base t v := hval0
  have hW' := hW
  obtain ⟨p, q, hA0, hV, rfl, hfz, hnd⟩ := hW
  have hA : DataW.TrodAll enc Try.prog W 0 (fun _ => true) true Try.f5.params.toList args.toList ds p := hA0
  rw [Try.params5] at hA hval
  obtain ⟨v0, vs0, d0, ds0, p0, q0, hargs, rfl, rfl, h0, r0⟩ := trodAll_cons hA
  obtain ⟨rfl, rfl, rfl⟩ := trodAll_nil r0
  obtain rfl : args = #[v0] := by cases args; simp_all
  obtain ⟨rfl, rfl⟩ := trodVars_none hV
  have k0 := h0
  have lt0 : ∀ x ∈ p0, x.block < W.heap.size := by obtain ⟨m, hm⟩ := k0; exact DataW.trod_lt m _ _ _ hm
  obtain ⟨s0, len0, cap0, rfl⟩ := okWide_slice Try.underlying43 (hval 0 43 v0 rfl rfl)
  obtain ⟨F0, F1, hrd, hml, hwf⟩ := open_rows2 Try.underlying43 Try.underlying44 Try.underlying3 (by kernel_rfl) (by kernel_rfl) h0
  clear hA0 hval0
  refine (walk s0 len0 cap0 F0 F1 W (by unfold maxLen at hml; omega) hrd (fun i hi => ⟨wf_bd (hwf i hi).1, wf_bd (hwf i hi).2⟩)).mono fun e W' ⟨he, bel⟩ => ?_
  subst he
  exact ⟨_, rfl, _, _, _, [], _, [], hW', trodAll_mk1 (shut_bool Try.underlying4 _), (trodAll_cons_mk (Below.trod laidOut (by kernel_rfl) (of_decide_eq_true (by kernel_rfl)) k0 bel lt0) trodAll_mk0), rfl, bel.frame _, fun h => by cases h⟩

theorem over : Rows.alarmDueRow.holds Try.pinned (OpenSpec.ofChange Rows.alarmDueSpec) :=
  OpenClaim.holds_of_wide 5 Try.f5 rfl rfl rfl rfl rfl rfl rfl ⟨rfl, rfl, rfl, rfl, rfl⟩ rfl rfl rfl rfl rfl (by kernel_rfl) Try.func5 (by kernel_rfl)
    (of_decide_eq_true (by kernel_rfl)) (by unfold Func.isWrapper; first | (rw [if_pos (by decide +kernel)]; kernel_rfl) | (rw [if_neg (by decide +kernel)]; exact ⟨rfl, rfl⟩))
    (fun os started H enc _ => lifted os started H enc)

theorem proved : Rows.AlarmDueSaid := over
#print axioms proved
end Go.Proofs.Ytlhcefpdkoliaaa.alarmDue
