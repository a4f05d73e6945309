/- Small lemmas for the statements of this seat: what an argument that came in reads as, the helper Bring, worlds behind draws. -/
import Derived.Test.YtlhcefpdkoliaaaRows
import Derived.WalkKit
import Derived.WalkLawsBesides
import Derived.WalkSpells
import Derived.ProofKit
import Derived.OpenShut
import Derived.Outline
import Derived.Lib.Hide
import Derived.BigQuiet
import Derived.Deep.QuietTactic
import Derived.Deep.Slices
import Derived.Deep.Fields
import Derived.ChangeSame
import Derived.Deep.OwnRows
import Derived.Deep.Draws
import Derived.Laws.OwnMore
import Derived.Laws.Rows
namespace Go.Proofs.Ytlhcefpdkoliaaa
open Go.ChangeShapes Go.WideShapes Go.ChangeAt Go.RowKit Go.Deep

theorem own : ownKnob Try.prog.godebug = none := by kernel_rfl
theorem laidOut : laidOutB Try.prog = true := by kernel_rfl

theorem r_int {k : IntKind} {a b : Int} (h : a = b) : Ending.returned (.int k a) = .returned (.int k b) := by rw [h]
theorem r_bool {a b : Bool} (h : a = b) : Ending.returned (.bool a) = .returned (.bool b) := by rw [h]
theorem wf_bd {a : Int} (h : (Lit.int .i64 a).wf = true) : -9223372036854775808 ≤ a ∧ a ≤ 9223372036854775807 := by
  simpa [Lit.wf, IntKind.min, IntKind.max, IntKind.signed, IntKind.bits] using h
theorem below_draws {B : Nat} {a w : World} (h : Below B a w) (n : Nat) : Below B a (w.drewN n) := ⟨h.os, h.tape, h.output, h.size, h.block⟩

/-- Block g is just the cells cs of element type t, none frozen. -/
def Blk (w : World) (g : Nat) (t : TypeId) (cs : Array Value) : Prop := w.heap[g]? = some (.cells cs t (0, 0))
section
variable {w w' : World} {g : Nat} {t : TypeId} {cs : Array Value}
theorem Blk.lt (h : Blk w g t cs) : g < w.heap.size := by
  rcases Nat.lt_or_ge g w.heap.size with hlt | hge
  · exact hlt
  · unfold Blk at h; rw [Array.getElem?_eq_none hge] at h; cases h
theorem Blk.cell (h : Blk w g t cs) (i : Nat) : w.cell? ⟨g, i, none⟩ = cs[i]? := cell_of_row w g i cs t (0, 0) h
theorem Blk.frozen (h : Blk w g t cs) (i : Nat) : w.frozen? ⟨g, i, none⟩ = false := by
  unfold Blk at h
  simp [World.frozen?, h]
theorem Blk.new (w : World) (t : TypeId) (cs : Array Value) : Blk (w.alloc (.cells cs t)) w.heap.size t cs := heap_alloc_new w _
theorem Blk.drew (h : Blk w g t cs) : Blk w.drew g t cs := h
theorem Blk.drewN (h : Blk w g t cs) (n : Nat) : Blk (w.drewN n) g t cs := h
theorem Blk.alloc (h : Blk w g t cs) (o : Obj) : Blk (w.alloc o) g t cs := (Below.heap_alloc w o g h.lt).trans h
theorem Blk.set_ (h : Blk w g t cs) (i : Nat) (u : Value) : Blk (w.setCell ⟨g, i, none⟩ u) g t (cs.setIfInBounds i u) := by
  unfold Blk at h ⊢
  simp [World.setCell, Array.getElem?_modify, h]
theorem Blk.far (h : Blk w g t cs) {p : Addr} (hp : g ≠ p.block) (u : Value) : Blk (w.setCell p u) g t cs := (Below.heap_setCell w p u g hp).trans h
theorem Blk.below {B : Nat} (h : Blk w g t cs) (hb : Below B w w') (hg : g < B) : Blk w' g t cs := (hb.block g hg).trans h
theorem Blk.grown {row : Option Nat} (h : Blk w g t cs) (hb : w.grownBy w' row) (hg : some g ≠ row) : Blk w' g t cs := (hb.block g h.lt hg).trans h
theorem Blk.ne_ {g' : Nat} {t' : TypeId} {cs' : Array Value} (h : Blk w g t cs) (h' : Blk w g' t' cs') (hne : t ≠ t') : g ≠ g' := by
  rintro rfl
  unfold Blk at h h'
  rw [h] at h'
  injection h' with h'
  injection h' with _ ht
  exact hne ht
theorem own_blk_ne {base : Nat} {e : TypeId} {size n : Nat} {v : Value} {xs : List Value} (h : w.ownsRow base e size v n xs) (hg : Blk w g t cs) (hne : e ≠ t) : v.ownBlock ≠ some g := by
  rcases h.2 with ⟨rfl, _⟩ | ⟨g', cap, cur, rfl, _, hh, _⟩
  · simp [Value.ownBlock]
  · intro he
    have : g' = g := by simpa [Value.ownBlock] using he
    subst this
    exact Blk.ne_ (t := e) hh hg hne rfl
end
section
variable {a w w' : World}
theorem only_refl (w : World) (row : Option Nat) : w.grownBy w row := ⟨rfl, rfl, rfl, Nat.le_refl _, fun _ _ _ => rfl⟩
theorem only_drewN {row : Option Nat} (h : a.grownBy w row) (n : Nat) : a.grownBy (w.drewN n) row := ⟨h.os, h.tape, h.output, h.size, h.block⟩
theorem only_drew {row : Option Nat} (h : a.grownBy w row) : a.grownBy w.drew row := ⟨h.os, h.tape, h.output, h.size, h.block⟩
theorem only_alloc {row : Option Nat} (h : a.grownBy w row) (o : Obj) : a.grownBy (w.alloc o) row :=
  ⟨h.os, h.tape, h.output, Nat.le_trans h.size (by simp), fun i hi hne => (Below.heap_alloc w o i (Nat.lt_of_lt_of_le hi h.size)).trans (h.block i hi hne)⟩
theorem only_setCell {g : Nat} (h : a.grownBy w (some g)) {p : Addr} (hp : p.block = g ∨ a.heap.size ≤ p.block) (u : Value) : a.grownBy (w.setCell p u) (some g) :=
  ⟨h.os, h.tape, h.output, by simpa [World.setCell] using h.size, fun i hi hne => (Below.heap_setCell w p u i (by
    rintro rfl
    rcases hp with hp | hp
    · exact hne (by rw [hp])
    · omega)).trans (h.block i hi hne)⟩
theorem only_of_below (h : Below a.heap.size a w) (row : Option Nat) : a.grownBy w row := ⟨h.os, h.tape, h.output, h.size, fun i hi _ => h.block i hi⟩
end

/-- The slice value with the address A and len elements of size cells each reads, element by element, as the lists G. -/
def Rd (w : World) (size : Nat) (A : Option Addr) (len : Nat) (G : Nat → List Value) : Prop :=
  ∀ i, i < len → ∃ b off, A = some ⟨b, off, none⟩ ∧ b < w.heap.size ∧ ∀ j u, (G i)[j]? = some u → w.cell? ⟨b, off + (i * size + j), none⟩ = some u

section
variable {w w' : World} {size len : Nat} {A : Option Addr} {G : Nat → List Value}
theorem Rd.below (h : Rd w size A len G) (hb : Below w.heap.size w w') : Rd w' size A len G := fun i hi => by
  obtain ⟨b, off, hA, hlt, hc⟩ := h i hi
  exact ⟨b, off, hA, Nat.lt_of_lt_of_le hlt hb.size, fun j u hu => (hb.cell (p := ⟨b, off + (i * size + j), none⟩) hlt).trans (hc j u hu)⟩
end

section
variable {H : Type} {enc : TypeId × Value → H} {P : Program} {w : World} {base : Nat} {spare : Nat → Bool} {held : Bool}
theorem rd_of_slice {t e : TypeId} {size len cap : Nat} {A : Option Addr} {d : DataW H} {p : List MemPlace} (ht : P.underlying t = some (.slice e)) (hC : P.cellsOf e = size) (hs : 0 < size)
    (h : DataW.Trod enc P w base spare held t (.slice A len cap) d p) :
    ∃ G : Nat → List Value, Rd w size A len G ∧ (len = 0 ∨ len ≤ maxLen) ∧ ∀ i, i < len → (G i).length = size ∧ ∃ n x, DataW.trod enc P w base spare held n e (G i) = some x := by
  subst hC
  obtain ⟨fuel, hf⟩ := h
  rcases open_slice ht hf with ⟨hcs, _⟩ | ⟨a, l, c, m, n, D, Pl, hcs, _, hl, hm, hmm, _, hi⟩
  · simp [Value.cells] at hcs
    obtain ⟨_, rfl, _⟩ := hcs
    exact ⟨fun _ => [], fun i hi => absurd hi (by omega), .inl rfl, fun i hi => absurd hi (by omega)⟩
  · simp [Value.cells] at hcs
    obtain ⟨rfl, rfl, rfl⟩ := hcs
    have hlm : len ≤ m := by rw [hmm]; split <;> omega
    have hex : ∀ i, ∃ cs' : List Value, i < len → (w.cells? base (a.add (i * P.cellsOf e)) (P.cellsOf e) = some cs' ∧ DataW.trod enc P w base spare held n e cs' = some (D i, Pl i)) := by
      intro i
      by_cases h : i < len
      · obtain ⟨cs', h1, h2⟩ := hi i (by omega)
        exact ⟨cs', fun _ => ⟨h1, h2⟩⟩
      · exact ⟨[], fun h' => absurd h' h⟩
    refine ⟨fun i => (hex i).choose, ?_, .inr (by omega), fun i hil => ?_⟩
    · intro i hil
      obtain ⟨h1, _⟩ := (hex i).choose_spec hil
      obtain ⟨_, hlen, hcell⟩ := World.cells?_some h1
      have hspot : a.spot = none := by
        obtain ⟨g1, _⟩ := (hex 0).choose_spec (by omega)
        obtain ⟨_, gl, gc⟩ := World.cells?_some g1
        have g0 := gc 0 (by omega)
        have gv : (hex 0).choose[0]? = some ((hex 0).choose[0]'(by omega)) := List.getElem?_eq_getElem (by omega)
        rw [gv] at g0
        have := World.cell?_spot g0
        simpa [Addr.add] using this
      obtain ⟨b, off, spot⟩ := a
      simp only at hspot
      subst hspot
      have hadd : ∀ o k, (Addr.add ⟨b, o, none⟩ k) = ⟨b, o + k, none⟩ := fun o k => by
        unfold Addr.add
        by_cases hk : k = 0 <;> simp [hk]
      refine ⟨b, off, rfl, ?_, fun j u hu => ?_⟩
      · have g0 := hcell 0 (by omega)
        have gv : (hex i).choose[0]? = some ((hex i).choose[0]'(by omega)) := List.getElem?_eq_getElem (by omega)
        rw [gv] at g0
        have := World.block_lt_of_cell? _ _ g0
        rw [hadd, hadd] at this
        exact this
      · have hj : j < (hex i).choose.length := by
          rcases Nat.lt_or_ge j (hex i).choose.length with h | h
          · exact h
          · rw [List.getElem?_eq_none h] at hu; cases hu
        have := hcell j (by omega)
        rw [Go.Deep.add_add, hadd] at this
        rw [this]; exact hu
    · obtain ⟨h1, h2⟩ := (hex i).choose_spec hil
      exact ⟨(World.cells?_some h1).2.1, n, _, h2⟩

/-- A slice of integers that came in. -/
theorem open_rows1 {k : IntKind} {t q : TypeId} {len cap : Nat} {A : Option Addr} {d : DataW H} {p : List MemPlace} (ht : P.underlying t = some (.slice q)) (hq : P.underlying q = some (.int k)) (hQ : P.cellsOf q = 1)
    (h : DataW.Trod enc P w base spare held t (.slice A len cap) d p) :
    ∃ F0 : Nat → Int, Rd w 1 A len (fun i => [.int k (F0 i)]) ∧ (len = 0 ∨ len ≤ maxLen) ∧ ∀ i, i < len → (Lit.int k (F0 i)).wf = true := by
  obtain ⟨G, hG, hm, ht'⟩ := rd_of_slice ht hQ (by omega) h
  have hex : ∀ i, ∃ a : Int, i < len → G i = [.int k a] ∧ (Lit.int k a).wf = true := by
    intro i
    by_cases hi : i < len
    · obtain ⟨hl, n, x, hx⟩ := ht' i hi
      obtain ⟨a0, z0, _, f0⟩ := DataW.trod_int hq hx
      exact ⟨a0, fun _ => ⟨z0, f0⟩⟩
    · exact ⟨0, fun h' => absurd h' hi⟩
  refine ⟨fun i => (hex i).choose, fun i hi => ?_, hm, fun i hi => ((hex i).choose_spec hi).2⟩
  obtain ⟨b, off, h1, h2, h3⟩ := hG i hi
  refine ⟨b, off, h1, h2, fun j u hu => h3 j u ?_⟩
  rw [((hex i).choose_spec hi).1]
  exact hu

/-- The cells of a struct whose fields have one cell each, field by field. -/
theorem cells_of_struct {t : TypeId} {fs : Array Field} {cs : List Value} {n : Nat} {x : DataW H × List MemPlace} (ht : P.underlying t = some (.struct fs)) (hone : oneCellFields P fs = true)
    (hl : cs.length = fs.size) (h : DataW.trod enc P w base spare held n t cs = some x) :
    ∀ (j : Nat) (f : Field), fs[j]? = some f → ∃ (v : Value) (y : DataW H × List MemPlace) (m : Nat), cs[j]? = some v ∧ DataW.trod enc P w base spare held m f.type [v] = some y := by
  intro j f hj
  obtain ⟨ys, m, _, _, _, hyl, hf⟩ := DataW.trod_struct ht h
  obtain ⟨ho, hk⟩ := hone_of hone j f hj
  have hjl : j < fs.size := (Array.getElem?_eq_some_iff.1 hj).1
  have hv : cs[j]? = some (cs[j]'(by omega)) := List.getElem?_eq_getElem (by omega)
  have h1 := hf j f hj
  rw [ho, hk] at h1
  have hd : (cs.drop j).take 1 = [cs[j]'(by omega)] := by
    rw [List.drop_eq_getElem_cons (by omega)]
    rfl
  rw [hd] at h1
  have hys : ys[j]? = some (ys[j]'(by omega)) := List.getElem?_eq_getElem (by omega)
  exact ⟨_, _, m, hv, h1.trans hys⟩
theorem bool_of_trod {t : TypeId} {v : Value} {n : Nat} {x : DataW H × List MemPlace} (ht : P.underlying t = some .bool) (h : DataW.trod enc P w base spare held n t [v] = some x) : ∃ b, v = .bool b := by
  obtain ⟨b, h1, _⟩ := DataW.trod_bool ht h
  exact ⟨b, by simpa using h1⟩
theorem int_of_trod {k : IntKind} {t : TypeId} {v : Value} {n : Nat} {x : DataW H × List MemPlace} (ht : P.underlying t = some (.int k)) (h : DataW.trod enc P w base spare held n t [v] = some x) : ∃ a, v = .int k a ∧ (Lit.int k a).wf = true := by
  obtain ⟨a, h1, _, h2⟩ := DataW.trod_int ht h
  exact ⟨a, by simpa using h1, h2⟩
/-- A slice of structs of an integer and a bool that came in. -/
theorem open_ib {k : IntKind} {t e : TypeId} {f0 f1 : Field} {len cap : Nat} {A : Option Addr} {d : DataW H} {p : List MemPlace} (ht : P.underlying t = some (.slice e)) (he : P.underlying e = some (.struct #[f0, f1])) (hone : oneCellFields P #[f0, f1] = true)
    (h0 : P.underlying f0.type = some (.int k)) (h1 : P.underlying f1.type = some .bool) (hC : P.cellsOf e = 2)
    (h : DataW.Trod enc P w base spare held t (.slice A len cap) d p) :
    ∃ (F0 : Nat → Int) (F1 : Nat → Bool), Rd w 2 A len (fun i => [.int k (F0 i), .bool (F1 i)]) ∧ (len = 0 ∨ len ≤ maxLen) ∧ ∀ i, i < len → (Lit.int k (F0 i)).wf = true := by
  obtain ⟨G, hG, hm, ht'⟩ := rd_of_slice ht hC (by omega) h
  have hex : ∀ i, ∃ a : Int × Bool, i < len → G i = [.int k a.1, .bool a.2] ∧ (Lit.int k a.1).wf = true := by
    intro i
    by_cases hi : i < len
    · obtain ⟨hl, n, x, hx⟩ := ht' i hi
      have hf := cells_of_struct he hone hl hx
      obtain ⟨v0, y0, m0, g0, t0⟩ := hf 0 f0 rfl
      obtain ⟨v1, y1, m1, g1, t1⟩ := hf 1 f1 rfl
      obtain ⟨a, rfl, wa⟩ := int_of_trod h0 t0
      obtain ⟨b, rfl⟩ := bool_of_trod h1 t1
      refine ⟨(a, b), fun _ => ⟨?_, wa⟩⟩
      match G i, hl, g0, g1 with
      | [c0, c1], _, g0, g1 => simp at g0 g1; rw [g0, g1]
    · exact ⟨(0, false), fun h' => absurd h' hi⟩
  refine ⟨fun i => (hex i).choose.1, fun i => (hex i).choose.2, fun i hi => ?_, hm, fun i hi => ((hex i).choose_spec hi).2⟩
  obtain ⟨b, off, h1, h2, h3⟩ := hG i hi
  refine ⟨b, off, h1, h2, fun j u hu => h3 j u ?_⟩
  rw [((hex i).choose_spec hi).1]
  exact hu
/-- A slice of structs of two integers and a bool that came in. -/
theorem open_iib {k : IntKind} {t e : TypeId} {f0 f1 f2 : Field} {len cap : Nat} {A : Option Addr} {d : DataW H} {p : List MemPlace} (ht : P.underlying t = some (.slice e)) (he : P.underlying e = some (.struct #[f0, f1, f2])) (hone : oneCellFields P #[f0, f1, f2] = true)
    (h0 : P.underlying f0.type = some (.int k)) (h1 : P.underlying f1.type = some (.int k)) (h2 : P.underlying f2.type = some .bool) (hC : P.cellsOf e = 3)
    (h : DataW.Trod enc P w base spare held t (.slice A len cap) d p) :
    ∃ (F0 F1 : Nat → Int) (F2 : Nat → Bool), Rd w 3 A len (fun i => [.int k (F0 i), .int k (F1 i), .bool (F2 i)]) ∧ (len = 0 ∨ len ≤ maxLen) ∧ ∀ i, i < len → (Lit.int k (F0 i)).wf = true ∧ (Lit.int k (F1 i)).wf = true := by
  obtain ⟨G, hG, hm, ht'⟩ := rd_of_slice ht hC (by omega) h
  have hex : ∀ i, ∃ a : Int × Int × Bool, i < len → G i = [.int k a.1, .int k a.2.1, .bool a.2.2] ∧ (Lit.int k a.1).wf = true ∧ (Lit.int k a.2.1).wf = true := by
    intro i
    by_cases hi : i < len
    · obtain ⟨hl, n, x, hx⟩ := ht' i hi
      have hf := cells_of_struct he hone hl hx
      obtain ⟨v0, y0, m0, g0, t0⟩ := hf 0 f0 rfl
      obtain ⟨v1, y1, m1, g1, t1⟩ := hf 1 f1 rfl
      obtain ⟨v2, y2, m2, g2, t2⟩ := hf 2 f2 rfl
      obtain ⟨a, rfl, wa⟩ := int_of_trod h0 t0
      obtain ⟨a', rfl, wa'⟩ := int_of_trod h1 t1
      obtain ⟨b, rfl⟩ := bool_of_trod h2 t2
      refine ⟨(a, a', b), fun _ => ⟨?_, wa, wa'⟩⟩
      match G i, hl, g0, g1, g2 with
      | [c0, c1, c2], _, g0, g1, g2 => simp at g0 g1 g2; rw [g0, g1, g2]
    · exact ⟨(0, 0, false), fun h' => absurd h' hi⟩
  refine ⟨fun i => (hex i).choose.1, fun i => (hex i).choose.2.1, fun i => (hex i).choose.2.2, fun i hi => ?_, hm, fun i hi => ((hex i).choose_spec hi).2⟩
  obtain ⟨b, off, h1, h2, h3⟩ := hG i hi
  refine ⟨b, off, h1, h2, fun j u hu => h3 j u ?_⟩
  rw [((hex i).choose_spec hi).1]
  exact hu
/-- A slice of structs of three integers that came in. -/
theorem open_iii {k : IntKind} {t e : TypeId} {f0 f1 f2 : Field} {len cap : Nat} {A : Option Addr} {d : DataW H} {p : List MemPlace} (ht : P.underlying t = some (.slice e)) (he : P.underlying e = some (.struct #[f0, f1, f2])) (hone : oneCellFields P #[f0, f1, f2] = true)
    (h0 : P.underlying f0.type = some (.int k)) (h1 : P.underlying f1.type = some (.int k)) (h2 : P.underlying f2.type = some (.int k)) (hC : P.cellsOf e = 3)
    (h : DataW.Trod enc P w base spare held t (.slice A len cap) d p) :
    ∃ (F0 F1 F2 : Nat → Int), Rd w 3 A len (fun i => [.int k (F0 i), .int k (F1 i), .int k (F2 i)]) ∧ (len = 0 ∨ len ≤ maxLen) ∧ ∀ i, i < len → (Lit.int k (F0 i)).wf = true ∧ (Lit.int k (F1 i)).wf = true ∧ (Lit.int k (F2 i)).wf = true := by
  obtain ⟨G, hG, hm, ht'⟩ := rd_of_slice ht hC (by omega) h
  have hex : ∀ i, ∃ a : Int × Int × Int, i < len → G i = [.int k a.1, .int k a.2.1, .int k a.2.2] ∧ (Lit.int k a.1).wf = true ∧ (Lit.int k a.2.1).wf = true ∧ (Lit.int k a.2.2).wf = true := by
    intro i
    by_cases hi : i < len
    · obtain ⟨hl, n, x, hx⟩ := ht' i hi
      have hf := cells_of_struct he hone hl hx
      obtain ⟨v0, y0, m0, g0, t0⟩ := hf 0 f0 rfl
      obtain ⟨v1, y1, m1, g1, t1⟩ := hf 1 f1 rfl
      obtain ⟨v2, y2, m2, g2, t2⟩ := hf 2 f2 rfl
      obtain ⟨a, rfl, wa⟩ := int_of_trod h0 t0
      obtain ⟨a', rfl, wa'⟩ := int_of_trod h1 t1
      obtain ⟨b, rfl, wb⟩ := int_of_trod h2 t2
      refine ⟨(a, a', b), fun _ => ⟨?_, wa, wa', wb⟩⟩
      match G i, hl, g0, g1, g2 with
      | [c0, c1, c2], _, g0, g1, g2 => simp at g0 g1 g2; rw [g0, g1, g2]
    · exact ⟨(0, 0, 0), fun h' => absurd h' hi⟩
  refine ⟨fun i => (hex i).choose.1, fun i => (hex i).choose.2.1, fun i => (hex i).choose.2.2, fun i hi => ?_, hm, fun i hi => ((hex i).choose_spec hi).2⟩
  obtain ⟨b, off, h1, h2, h3⟩ := hG i hi
  refine ⟨b, off, h1, h2, fun j u hu => h3 j u ?_⟩
  rw [((hex i).choose_spec hi).1]
  exact hu

/-- The cells of an array of two integers. -/
theorem ints2_of_trod {k : IntKind} {e t : TypeId} {cs : List Value} {n : Nat} {x : DataW H × List MemPlace} (ht : P.underlying t = some (.array 2 e)) (he : P.underlying e = some (.int k)) (hE : P.cellsOf e = 1)
    (hl : cs.length = 2) (h : DataW.trod enc P w base spare held n t cs = some x) :
    ∃ a0 a1 : Int, cs = [.int k a0, .int k a1] ∧ (Lit.int k a0).wf = true ∧ (Lit.int k a1).wf = true := by
  match cs, hl with
  | [c0, c1], _ =>
    obtain ⟨ys, m, _, _, _, hl, hg⟩ := DataW.trod_array ht h
    match ys, hl with
    | [y0, y1], _ =>
      have k0 := hg 0 (by omega)
      have k1 := hg 1 (by omega)
      simp only [hE] at k0 k1
      obtain ⟨a0, z0, _, f0⟩ := DataW.trod_int he (by simpa using k0)
      obtain ⟨a1, z1, _, f1⟩ := DataW.trod_int he (by simpa using k1)
      simp at z0 z1
      subst z0 z1
      exact ⟨a0, a1, rfl, f0, f1⟩

/-- A slice of arrays of two integers that came in. -/
theorem open_rows2 {k : IntKind} {t e q : TypeId} {len cap : Nat} {A : Option Addr} {d : DataW H} {p : List MemPlace} (ht : P.underlying t = some (.slice e)) (he : P.underlying e = some (.array 2 q)) (hq : P.underlying q = some (.int k)) (hC : P.cellsOf e = 2) (hQ : P.cellsOf q = 1)
    (h : DataW.Trod enc P w base spare held t (.slice A len cap) d p) :
    ∃ F0 F1 : Nat → Int, Rd w 2 A len (fun i => [.int k (F0 i), .int k (F1 i)]) ∧ (len = 0 ∨ len ≤ maxLen) ∧ ∀ i, i < len → (Lit.int k (F0 i)).wf = true ∧ (Lit.int k (F1 i)).wf = true := by
  obtain ⟨G, hG, hm, ht'⟩ := rd_of_slice ht hC (by omega) h
  have hex : ∀ i, ∃ a : Int × Int, i < len → G i = [.int k a.1, .int k a.2] ∧ (Lit.int k a.1).wf = true ∧ (Lit.int k a.2).wf = true := by
    intro i
    by_cases hi : i < len
    · obtain ⟨hl, n, x, hx⟩ := ht' i hi
      obtain ⟨a0, a1, e1, f0, f1⟩ := ints2_of_trod he hq hQ hl hx
      exact ⟨(a0, a1), fun _ => ⟨e1, f0, f1⟩⟩
    · exact ⟨(0, 0), fun h' => absurd h' hi⟩
  refine ⟨fun i => (hex i).choose.1, fun i => (hex i).choose.2, fun i hi => ?_, hm, fun i hi => ((hex i).choose_spec hi).2⟩
  obtain ⟨b, off, h1, h2, h3⟩ := hG i hi
  refine ⟨b, off, h1, h2, fun j u hu => h3 j u ?_⟩
  rw [((hex i).choose_spec hi).1]
  exact hu
end

theorem tmod_cases (i n : Int) (h : 0 < n) : (0 ≤ i.tmod n ∧ i.tmod n < n ∧ i % n = i.tmod n) ∨ (i.tmod n < 0 ∧ -n < i.tmod n ∧ i % n = i.tmod n + n) := by
  have hb := Int.emod_nonneg i (b := n) (by omega)
  have hc := Int.emod_lt_of_pos i h
  have e : (n.natAbs : Int) = n := by omega
  rw [Int.tmod_eq_emod]
  split
  · left; omega
  · rename_i hn
    have : i % n ≠ 0 := fun hz => hn (.inr (Int.dvd_of_emod_eq_zero hz))
    right; omega
set_option maxHeartbeats 400000 in
/-- Bring(i, n), n above 0: i modulo n. -/
theorem bring_any (i n : Int) (w : World) (_h1 : -9223372036854775808 ≤ i) (_h2 : i ≤ 9223372036854775807) (h3 : 0 < n) (h4 : n ≤ 4611686018427387904) :
    Calls Try.prog 8 #[.int .i64 i, .int .i64 n] w fun e w' => e = .returned (.int .i64 (i % n)) ∧ w = w' := by
  have hz : (n == 0) = false := by simp; omega
  by_cases hi : 0 ≤ i
  · have hb := Int.emod_nonneg i (b := n) (by omega)
    go_enter Try.func8, Try.ntmps8
    go_wp2
    go_ret
    exact ⟨rfl, rfl⟩
  · rcases tmod_cases i n h3 with ⟨a1, a2, a3⟩ | ⟨a1, a2, a3⟩
    · have A3 := Lib.hid a3; clear a3
      go_enter Try.func8, Try.ntmps8
      go_wp2
      go_ret
      exact ⟨r_int A3.out.symm, rfl⟩
    · have A3 := Lib.hid a3; clear a3
      go_enter Try.func8, Try.ntmps8
      go_wp2
      go_ret
      exact ⟨r_int A3.out.symm, rfl⟩

end Go.Proofs.Ytlhcefpdkoliaaa
