/- What Wants answers, in the words of numbers of 64 bits. No walk. -/
import Derived.Test.YtogcjflppjebfaaWalks
namespace Go.Proofs.Ytogcjflppjebfaa
open Go.RowKit

theorem wrap_toNat_zero (x : BitVec 64) : (IntKind.i64.wrap (x.toNat : Int) != 0) = (x != 0#64) := by
  have h := x.isLt
  have e : IntKind.i64.wrap (x.toNat : Int) = 0 ↔ x = 0#64 := by
    rw [IntKind.wrap_i64]
    constructor
    · intro hx
      apply BitVec.eq_of_toNat_eq
      simp only [BitVec.toNat_ofNat, Nat.zero_mod]
      omega
    · rintro rfl
      simp
  by_cases hx : x = 0#64
  · rw [bne_eq_false_iff_eq.2 (e.2 hx), bne_eq_false_iff_eq.2 hx]
  · rw [bne_iff_ne.2 hx, bne_iff_ne.2 (fun h => hx (e.1 h))]
theorem ofInt_wrap (x : BitVec 64) : BitVec.ofInt 64 (IntKind.i64.wrap (x.toNat : Int)) = x := by
  have h := x.isLt
  apply BitVec.eq_of_toNat_eq
  rw [IntKind.wrap_i64, BitVec.toNat_ofInt]
  omega
theorem wantsB_eq (G m : Int) : wantsB G m = (BitVec.ofInt 64 G &&& BitVec.ofInt 64 m != 0#64) := wrap_toNat_zero _
theorem ofInt_or (a b : Int) : BitVec.ofInt 64 (bits .or .i64 a b) = BitVec.ofInt 64 a ||| BitVec.ofInt 64 b := ofInt_wrap _
theorem ofInt_and (a b : Int) : BitVec.ofInt 64 (bits .and .i64 a b) = BitVec.ofInt 64 a &&& BitVec.ofInt 64 b := ofInt_wrap _

theorem bv_or (x y : BitVec 64) : (x ||| y != 0#64) = ((x != 0#64) || (y != 0#64)) := by
  have e : x ||| y = 0#64 ↔ x = 0#64 ∧ y = 0#64 := by
    constructor
    · intro h
      constructor
      · apply BitVec.eq_of_getLsbD_eq; intro i hi
        have := congrArg (fun z : BitVec 64 => z.getLsbD i) h
        simp at this; simp [this.1]
      · apply BitVec.eq_of_getLsbD_eq; intro i hi
        have := congrArg (fun z : BitVec 64 => z.getLsbD i) h
        simp at this; simp [this.2]
    · rintro ⟨rfl, rfl⟩; simp
  by_cases hx : x = 0#64
  · by_cases hy : y = 0#64
    · simp [hx, hy]
    · have : ¬ (x ||| y = 0#64) := fun h => hy (e.1 h).2
      rw [bne_iff_ne.2 this, bne_iff_ne.2 hy, Bool.or_true]
  · have : ¬ (x ||| y = 0#64) := fun h => hx (e.1 h).1
    rw [bne_iff_ne.2 this, bne_iff_ne.2 hx, Bool.true_or]

theorem wants_or (G a b : Int) : wantsB G (bits .or .i64 a b) = (wantsB G a || wantsB G b) := by
  rw [wantsB_eq, wantsB_eq, wantsB_eq, ofInt_or, ← bv_or]
  congr 1
  apply BitVec.eq_of_getLsbD_eq; intro i hi
  simp [Bool.and_or_distrib_left]
theorem wants_and (G a b : Int) (h : wantsB G a = false) : wantsB G (bits .and .i64 a b) = false := by
  rw [wantsB_eq] at h ⊢
  have h0 : BitVec.ofInt 64 G &&& BitVec.ofInt 64 a = 0#64 := by simpa using h
  rw [ofInt_and, ← BitVec.and_assoc, h0]
  simp
theorem wants_comm (G a : Int) : (bits .and .i64 a G != 0) = wantsB G a := by
  show wantsB a G = wantsB G a
  rw [wantsB_eq, wantsB_eq, BitVec.and_comm]
theorem wants_zero (G : Int) : wantsB G 0 = false := by
  rw [wantsB_eq]
  simp
theorem wants_high (G : Nat) (h : G < 256) : wantsB G (-256) = false := by
  rw [wantsB_eq]
  have : ∀ n : Fin 256, (BitVec.ofInt 64 (n.val : Int) &&& BitVec.ofInt 64 (-256) != 0#64) = false := by decide +kernel
  exact this ⟨G, h⟩
theorem wants_all (G : Nat) (h : G < 256) : wantsB G (-1) = ((G : Int) != 0) := by
  rw [wantsB_eq]
  have : ∀ n : Fin 256, (BitVec.ofInt 64 (n.val : Int) &&& BitVec.ofInt 64 (-1) != 0#64) = ((n.val : Int) != 0) := by decide +kernel
  exact this ⟨G, h⟩
end Go.Proofs.Ytogcjflppjebfaa
