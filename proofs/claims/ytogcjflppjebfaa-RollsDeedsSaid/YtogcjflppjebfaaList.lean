/- The reference's list of groups and the program's eight bools say the same. No walk. -/
import Derived.Test.YtogcjflppjebfaaWalks
namespace Go.Proofs.Ytogcjflppjebfaa
open Go.RowKit

/-- The sum of g over the members below m, each as often as it is there. -/
def wsum (g : Nat → Nat) (xs : List Int) : Nat → Nat
  | 0 => 0
  | m + 1 => wsum g xs m + xs.count (m : Int) * g m
theorem wsum_cons (g : Nat → Nat) (x : Int) (xs : List Int) (m : Nat) : wsum g (x :: xs) m = wsum g xs m + if 0 ≤ x ∧ x < m then g x.toNat else 0 := by
  induction m with
  | zero => simp [wsum]; omega
  | succ m ih =>
    simp only [wsum, ih, List.count_cons, beq_iff_eq]
    by_cases h : x = m
    · subst h
      rw [if_neg (show ¬ (0 ≤ (m : Int) ∧ (m : Int) < (m : Int)) by omega), if_pos (show 0 ≤ (m : Int) ∧ (m : Int) < ((m + 1 : Nat) : Int) by omega)]
      simp [Nat.add_mul]
      try omega
    · rw [if_neg h]
      by_cases h2 : 0 ≤ x ∧ x < m
      · rw [if_pos h2, if_pos (by omega)]; simp; omega
      · rw [if_neg h2, if_neg (by omega)]; simp
/-- The sum over the list. -/
def lsum (g : Nat → Nat) : List Int → Nat
  | [] => 0
  | x :: xs => g x.toNat + lsum g xs
theorem lsum_append (g : Nat → Nat) (xs ys : List Int) : lsum g (xs ++ ys) = lsum g xs + lsum g ys := by
  induction xs with
  | nil => simp [lsum]
  | cons x xs ih => simp only [List.cons_append, lsum, ih]; omega
theorem wsum_eq (g : Nat → Nat) (m : Nat) (xs : List Int) (h : ∀ x ∈ xs, 0 ≤ x ∧ x < m) : wsum g xs m = lsum g xs := by
  induction xs with
  | nil =>
    clear h
    induction m with
    | zero => rfl
    | succ m ih => simp [wsum, ih, lsum]
  | cons x xs ih =>
    rw [wsum_cons, ih fun y hy => h y (List.mem_cons_of_mem _ hy), if_pos (h x List.mem_cons_self), lsum]
    omega

/-- The list xs names just the groups of f, each once. -/
def Same (f : Nat → Bool) (xs : List Int) : Prop := (∀ x ∈ xs, 0 ≤ x ∧ x < 8) ∧ ∀ k : Nat, k < 8 → xs.count (k : Int) = if f k = true then 1 else 0
theorem wsum_pow {f : Nat → Bool} {xs : List Int} (h : ∀ k : Nat, k < 8 → xs.count (k : Int) = if f k = true then 1 else 0) (m : Nat) (hm : m ≤ 8) : wsum (fun k => 2 ^ k) xs m = gsum f m := by
  induction m with
  | zero => rfl
  | succ m ih =>
    rw [wsum, gsum, ih (by omega), h m (by omega)]
    by_cases hf : f m = true <;> simp [hf]
theorem wsum_one {f : Nat → Bool} {xs : List Int} (h : ∀ k : Nat, k < 8 → xs.count (k : Int) = if f k = true then 1 else 0) (m : Nat) (hm : m ≤ 8) : wsum (fun _ => 1) xs m ≤ m := by
  induction m with
  | zero => simp [wsum]
  | succ m ih =>
    have := ih (by omega)
    rw [wsum, h m (by omega)]
    by_cases hf : f m = true <;> simp [hf] <;> omega
theorem lsum_len (xs : List Int) : lsum (fun _ => 1) xs = xs.length := by
  induction xs with
  | nil => rfl
  | cons x xs ih => simp only [lsum, ih, List.length_cons]; omega
theorem Same.len {f : Nat → Bool} {xs : List Int} (h : Same f xs) : xs.length ≤ 8 := by
  rw [← lsum_len, ← wsum_eq _ 8 xs h.1]
  exact wsum_one h.2 8 (Nat.le_refl _)
theorem Same.sum {f : Nat → Bool} {xs : List Int} (h : Same f xs) : lsum (fun k => 2 ^ k) xs = gsum f 8 := by
  rw [← wsum_eq _ 8 xs h.1]
  exact wsum_pow h.2 8 (Nat.le_refl _)
theorem Same.nil : Same (fun _ => false) [] := ⟨fun x hx => (by cases hx), fun k _ => (by simp)⟩
theorem Same.mem {f : Nat → Bool} {xs : List Int} (h : Same f xs) {k : Nat} (hk : k < 8) : (k : Int) ∈ xs ↔ f k = true := by
  rw [← List.count_pos_iff, h.2 k hk]
  by_cases hf : f k = true <;> simp [hf]
theorem Same.enter {f : Nat → Bool} {xs : List Int} (h : Same f xs) {k : Nat} (hk : k < 8) (hn : ¬ (k : Int) ∈ xs) : Same (upd f k true) (xs ++ [(k : Int)]) := by
  refine ⟨fun x hx => ?_, fun m hm => ?_⟩
  · rcases List.mem_append.1 hx with hx | hx
    · exact h.1 x hx
    · simp at hx; omega
  · rw [List.count_append, List.count_singleton]
    by_cases e : m = k
    · subst e
      have : xs.count (m : Int) = 0 := List.count_eq_zero.2 hn
      simp [upd, this]
    · rw [h.2 m hm]
      have e1 : ((k : Int) == (m : Int)) = false := by simp; omega
      simp [upd, e, e1]
theorem Same.leave {f : Nat → Bool} {xs : List Int} (h : Same f xs) {k p : Nat} (hp : xs[p]? = some (k : Int)) : Same (upd f k false) (xs.take p ++ xs.drop (p + 1)) := by
  have hlt : p < xs.length := by
    rcases Nat.lt_or_ge p xs.length with h | h
    · exact h
    · rw [List.getElem?_eq_none h] at hp; cases hp
  have hx : xs[p] = (k : Int) := by rw [List.getElem?_eq_getElem hlt] at hp; injection hp
  have hs : xs = xs.take p ++ (k : Int) :: xs.drop (p + 1) := by
    rw [← hx, List.getElem_cons_drop, List.take_append_drop]
  refine ⟨fun x hx => h.1 x ?_, fun m hm => ?_⟩
  · rcases List.mem_append.1 hx with hx | hx
    · exact List.mem_of_mem_take hx
    · exact List.mem_of_mem_drop hx
  · have h1 := h.2 m hm
    rw [hs, List.count_append, List.count_cons] at h1
    rw [List.count_append]
    by_cases e : m = k
    · subst e
      simp [upd] at h1 ⊢
      split at h1 <;> omega
    · have e1 : ((k : Int) == (m : Int)) = false := by simp; omega
      simp [upd, e, e1] at h1 ⊢
      exact h1
theorem lsum_take_le (g : Nat → Nat) (xs : List Int) (p : Nat) (x : Int) (hp : xs[p]? = some x) : lsum g (xs.take p) + g x.toNat ≤ lsum g xs ∧ lsum g (xs.take (p + 1)) = lsum g (xs.take p) + g x.toNat := by
  have hlt : p < xs.length := by
    rcases Nat.lt_or_ge p xs.length with h | h
    · exact h
    · rw [List.getElem?_eq_none h] at hp; cases hp
  have hx : xs[p] = x := by rw [List.getElem?_eq_getElem hlt] at hp; injection hp
  have e : lsum g (xs.take (p + 1)) = lsum g (xs.take p) + g x.toNat := by
    rw [List.take_succ_eq_append_getElem hlt, lsum_append, hx]
    simp [lsum]
  refine ⟨?_, e⟩
  have h2 : lsum g xs = lsum g (xs.take (p + 1)) + lsum g (xs.drop (p + 1)) := by rw [← lsum_append, List.take_append_drop]
  omega
end Go.Proofs.Ytogcjflppjebfaa
