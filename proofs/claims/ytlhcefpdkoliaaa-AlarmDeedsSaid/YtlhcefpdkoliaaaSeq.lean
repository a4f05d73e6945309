/- A region that draws its order, walked in one fixed order: loads and what yields in every world that meets S are taken at their turn, calls come up alone. -/
import Derived.Test.YtlhcefpdkoliaaaKit
import Derived.Deep.RegionHeld3
namespace Go.Proofs.Ytlhcefpdkoliaaa
open Go.RowKit

/-- The schedule (operation, is it taken first?) is one that the region's edges bear. -/
def schedOk (md : Region.Mode) (ops : Array Oper) : Array Bool → List (Nat × Bool) → Bool
  | listed, [] => (Region.ready md ops listed).isEmpty
  | listed, (i, true) :: r => Region.free md ops listed i && (Region.ready md ops listed).contains i && schedOk md ops (listed.setIfInBounds i true) r
  | listed, (i, false) :: r => (Region.ready md ops listed == [i]) && schedOk md ops (listed.setIfInBounds i true) r

/-- The walk along a schedule. -/
def Seq (P : Program) (ops : Array Oper) (Q : Exit → Act → World → Prop) (S : World → Prop) : List (Nat × Bool) → Act → World → Prop
  | [], a, w => Q .normal a w
  | (i, true) :: r, a, w => ∃ (oi : Oper) (v : Value), ops[i]? = some oi ∧ YieldsIf P ops S oi v a ∧ S w ∧ Seq P ops Q S r (a.put oi.dst v) w
  | (i, false) :: r, a, w => wpOp P ops Q i (fun a' w' => S w' ∧ Seq P ops Q S r a' w') a w

section
variable {P : Program} {ops : Array Oper} {Q : Exit → Act → World → Prop} {md : Region.Mode} {S : World → Prop}
theorem anyH_of_seq (hs : Region.noSelect ops = true) (hQ : ∀ c t v a w, Q (.panic c) (a.put (some t) v) w → Q (.panic c) a w) :
    ∀ (r : List (Nat × Bool)) (fuel : Nat) (listed : Array Bool) (a : Act) (w : World), r.length ≤ fuel → schedOk md ops listed r = true → Seq P ops Q S r a w → wpAnyH P md ops Q S fuel listed a w
  | [], fuel, listed, a, w, _, hc, h => wpAnyH_done (by simpa [schedOk] using hc) h fuel
  | (i, true) :: r, 0, _, _, _, hf, _, _ => by simp at hf
  | (i, false) :: r, 0, _, _, _, hf, _, _ => by simp at hf
  | (i, true) :: r, fuel + 1, listed, a, w, hf, hc, h => by
    obtain ⟨oi, v, hi, hy, hS, h⟩ := h
    simp only [schedOk, Bool.and_eq_true] at hc
    exact wpAnyH_take hi hs hc.1.1 hc.1.2 (fun c a w h => by cases hd : oi.dst with | none => rw [hd] at h; exact h | some t => rw [hd] at h; exact hQ c t _ a w h) hy hS (anyH_of_seq hs hQ r fuel _ _ _ (by simpa using hf) hc.2 h)
  | (i, false) :: r, fuel + 1, listed, a, w, hf, hc, h => by
    simp only [schedOk, Bool.and_eq_true, beq_iff_eq] at hc
    refine wpAnyH_all hc.1 (by simp) fun j hj => ?_
    obtain rfl : j = i := by simpa using hj
    exact wpOp_mono (fun a' w' h' => ⟨h'.1, anyH_of_seq hs hQ r fuel _ _ _ (by simpa using hf) hc.2 h'.2⟩) h

/-- The beginning. -/
theorem region_seq {id : Nat} {a : Act} {w : World} (r : List (Nat × Bool)) (S : World → Prop) (hm : P.follows .mixedOrders = true) (hs : Region.noSelect ops = true) (hl : r.length ≤ ops.size)
    (hc : schedOk .any ops (Array.replicate ops.size false) r = true) (hQ : ∀ c t v a w, Q (.panic c) (a.put (some t) v) w → Q (.panic c) a w)
    (h : Seq P ops Q S r a w.drew) : (Code.region id ops true).wp P Q a w :=
  wp_region_held (S := S) hm (anyH_of_seq hs hQ r _ _ _ _ hl hc h)

theorem seq_done {a : Act} {w : World} (h : Q .normal a w) : Seq P ops Q S [] a w := h
/-- A step whose operation yields. -/
theorem seq_take {i : Nat} {r : List (Nat × Bool)} {oi : Oper} {v : Value} {a : Act} {w : World} (hi : ops[i]? = some oi) (hw : Region.wanted oi (yielded ops a.tmps) = true) (hS : S w)
    (hy : ∀ w, S w → (execOp a.eval oi).run P w = .ok (.value v) w) (h : Seq P ops Q S r (a.put oi.dst v) w) : Seq P ops Q S ((i, true) :: r) a w := ⟨oi, v, hi, .inl ⟨hw, hy⟩, hS, h⟩
/-- A step whose operation's guard says no. -/
theorem seq_skip {i : Nat} {r : List (Nat × Bool)} {oi : Oper} {a : Act} {w : World} (hi : ops[i]? = some oi) (hw : Region.wanted oi (yielded ops a.tmps) = false) (hS : S w)
    (h : Seq P ops Q S r (a.put oi.dst undef) w) : Seq P ops Q S ((i, true) :: r) a w := ⟨oi, undef, hi, .inr ⟨hw, rfl⟩, hS, h⟩
/-- A step that is a call. -/
theorem seq_call {i : Nat} {r : List (Nat × Bool)} {oi : Oper} {a : Act} {w : World} (hi : ops[i]? = some oi) (hw : Region.wanted oi (yielded ops a.tmps) = true)
    (h : ∀ K : Act → World → Prop, (∀ a w, S w → Seq P ops Q S r a w → K a w) → Oper.wp P oi a w K Q) : Seq P ops Q S ((i, false) :: r) a w := by
  show wpOp P ops Q i _ a w
  refine wpOp_step hi fun K hK => ?_
  rw [if_pos hw]
  exact h K fun a w hS hW => hK a w ⟨hS, hW⟩
end
end Go.Proofs.Ytlhcefpdkoliaaa
