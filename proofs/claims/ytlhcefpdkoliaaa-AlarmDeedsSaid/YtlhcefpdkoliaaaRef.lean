/- The walks of the reference's timers (hauberkref08), each function once but Tick. -/
import Derived.Test.YtlhcefpdkoliaaaTick
namespace Go.Proofs.Ytlhcefpdkoliaaa
open Go.ChangeShapes Go.WideShapes Go.ChangeAt Go.RowKit Go.Deep Go.Maps

/-- The cells of the list: how many ticks are left of each. -/
def lc (n : Nat) (f : Nat → Int) : Array Value := ((List.range n).map (fun i => Value.int .i64 (f i))).toArray
theorem lc_size (n : Nat) (f : Nat → Int) : (lc n f).size = n := by simp [lc]
theorem lc_at (n : Nat) (f : Nat → Int) (i : Nat) (h : i < n) : (lc n f)[i]? = some (.int .i64 (f i)) := by
  simp [lc, h]
theorem lc_set (n : Nat) (f : Nat → Int) (j : Nat) (v : Int) : (lc n f).setIfInBounds j (.int .i64 v) = lc n (upd f j v) := by
  apply Array.ext
  · simp [lc]
  · intro i h1 h2
    simp only [lc, List.setIfInBounds_toArray, List.getElem_toArray, List.getElem_set, List.getElem_map, List.getElem_range, upd]
    by_cases hij : i = j
    · subst hij; simp
    · rw [if_neg (fun e => hij e.symm), if_neg hij]
theorem lc_zero (n : Nat) : madeCells #[.int .i64 0] n = lc n (fun _ => 0) := by
  apply Array.ext
  · simp [lc, size_madeCells]
  · intro i h1 h2
    simp [lc, madeCells]
    rw [Nat.mod_one]; rfl

/-- The reference's timers lie in block h, their list in block q. -/
def RK (h q n : Nat) (f : Nat → Int) (w : World) : Prop := Blk w h 53 #[.slice (some ⟨q, 0, none⟩) n n] ∧ Blk w q 3 (lc n f) ∧ 1 ≤ n ∧ n ≤ 16
section
variable {h q n : Nat} {f : Nat → Int} {w w' : World}
theorem RK.c0 (r : RK h q n f w) : w.cell? ⟨h, 0, none⟩ = some (.slice (some ⟨q, 0, none⟩) n n) := r.1.cell 0
theorem RK.cell (r : RK h q n f w) (k : Nat) (hk : k < n) : w.cell? ⟨q, k, none⟩ = some (.int .i64 (f k)) := (r.2.1.cell k).trans (lc_at n f k hk)
theorem RK.frozen (r : RK h q n f w) (k : Nat) : w.frozen? ⟨q, k, none⟩ = false := r.2.1.frozen k
theorem RK.ne (r : RK h q n f w) : h ≠ q := r.1.ne_ r.2.1 (by decide)
theorem RK.stored (r : RK h q n f w) (k : Nat) (v : Int) : RK h q n (upd f k v) (w.setCell ⟨q, k, none⟩ (.int .i64 v)) := by
  refine ⟨r.1.far r.ne _, ?_, r.2.2⟩
  have := r.2.1.set_ k (.int .i64 v)
  rwa [lc_set] at this
theorem RK.alloc (r : RK h q n f w) (o : Obj) : RK h q n f (w.alloc o) := ⟨r.1.alloc o, r.2.1.alloc o, r.2.2⟩
theorem RK.drewN (r : RK h q n f w) (k : Nat) : RK h q n f (w.drewN k) := ⟨r.1.drewN k, r.2.1.drewN k, r.2.2⟩
theorem RK.kept {row : Option Nat} (r : RK h q n f w) (hg : w.grownBy w' row) (h1 : some h ≠ row) (h2 : some q ≠ row) : RK h q n f w' := ⟨r.1.grown hg h1, r.2.1.grown hg h2, r.2.2⟩
theorem RK.congr {f' : Nat → Int} (r : RK h q n f w) (e : ∀ k, k < n → f k = f' k) : RK h q n f' w := by
  have : lc n f = lc n f' := by
    unfold lc
    congr 1
    apply List.map_congr_left
    intro i hi
    rw [e i (List.mem_range.mp hi)]
  exact ⟨r.1, by rw [← this]; exact r.2.1, r.2.2⟩
end

theorem has_any (h q n : Nat) (f : Nat → Int) (j : Int) (w : World) (r : RK h q n f w) (b : Bool) (hb : b = decide (0 ≤ j ∧ j < n)) :
    Calls Try.prog 24 #[.pointer (some ⟨h, 0, none⟩), .int .i64 j] w fun e w' => e = .returned (.bool b) ∧ w = w' := by
  have c0 := r.c0
  have hn1 := r.2.2.1
  have hn2 := r.2.2.2
  clear r
  subst hb
  by_cases h1 : 0 ≤ j
  · have g1 : ¬ j < 0 := by omega
    by_cases h2 : j < n
    · rw [show decide (0 ≤ j ∧ j < (n : Int)) = true by simp; omega]
      go_enter Try.func24, Try.ntmps24
      go_wp2_with fail
      go_ret
      exact ⟨rfl, rfl⟩
    · rw [show decide (0 ≤ j ∧ j < (n : Int)) = false by simp; omega]
      go_enter Try.func24, Try.ntmps24
      go_wp2_with fail
      go_ret
      exact ⟨rfl, rfl⟩
  · rw [show decide (0 ≤ j ∧ j < (n : Int)) = false by simp; omega]
    go_enter Try.func24, Try.ntmps24
    go_wp2_with fail
    go_ret
    exact ⟨rfl, rfl⟩
theorem has_in (h q n : Nat) (f : Nat → Int) (j : Int) (w : World) (r : RK h q n f w) (h1 : 0 ≤ j) (h2 : j < n) :
    Calls Try.prog 24 #[.pointer (some ⟨h, 0, none⟩), .int .i64 j] w fun e w' => e = .returned (.bool true) ∧ w = w' := has_any h q n f j w r true (by simp; omega)
theorem has_out (h q n : Nat) (f : Nat → Int) (j : Int) (w : World) (r : RK h q n f w) (h1 : j < 0 ∨ n ≤ j) :
    Calls Try.prog 24 #[.pointer (some ⟨h, 0, none⟩), .int .i64 j] w fun e w' => e = .returned (.bool false) ∧ w = w' := has_any h q n f j w r false (by simp; omega)

theorem rleft_any (h q n : Nat) (f : Nat → Int) (j : Int) (w : World) (r : RK h q n f w) :
    Calls Try.prog 22 #[.pointer (some ⟨h, 0, none⟩), .int .i64 j] w fun e w' => e = .returned (.int .i64 (leftR n f j)) ∧ w = w' := by
  have R := Lib.hid r; clear r
  have hn1 := R.out.2.2.1
  have hn2 := R.out.2.2.2
  by_cases h1 : j < 0 ∨ n ≤ j
  · have E : leftR n f j = 0 := by unfold leftR; rw [if_pos (by omega)]
    rw [E]; clear E
    go_enter Try.func22, Try.ntmps22
    go_wp2_with fail
    refine (has_out h q n f j _ R.out h1).mono ?_; rintro e w' ⟨rfl, rfl⟩
    go_wp2_with fail
    go_ret
    exact ⟨rfl, rfl⟩
  · have h2 : 0 ≤ j := by omega
    have h3 : j < n := by omega
    have E : leftR n f j = f j.toNat := by unfold leftR; rw [if_neg (by omega)]
    rw [E]; clear E h1
    obtain ⟨k, rfl⟩ := Int.eq_ofNat_of_zero_le h2
    rw [Int.toNat_natCast]
    have c0 := R.out.c0
    have c1 := R.out.cell k (by omega)
    go_enter Try.func22, Try.ntmps22
    go_wp2_with fail
    refine (has_in h q n f k _ R.out h2 h3).mono ?_; rintro e w' ⟨rfl, rfl⟩
    go_wp2_with fail
    go_ret
    exact ⟨rfl, rfl⟩

theorem rset_any (h q n : Nat) (f : Nat → Int) (j t : Int) (w : World) (r : RK h q n f w) :
    Calls Try.prog 18 #[.pointer (some ⟨h, 0, none⟩), .int .i64 j, .int .i64 t] w fun e w' => e = .returned (.int .i64 (setR n j t)) ∧ RK h q n (setS n f j t) w' ∧ w.grownBy w' (some q) := by
  have R := Lib.hid r; clear r
  have hn1 := R.out.2.2.1
  have hn2 := R.out.2.2.2
  by_cases h1 : j < 0 ∨ n ≤ j
  · have E : setR n j t = 2 ∧ setS n f j t = f := by unfold setR setS; rw [if_pos (by omega), if_pos (by omega)]; exact ⟨rfl, rfl⟩
    rw [E.1, E.2]; clear E
    go_enter Try.func18, Try.ntmps18
    go_wp2_with fail
    refine (has_out h q n f j _ R.out h1).mono ?_; rintro e w' ⟨rfl, rfl⟩
    go_wp2_with fail
    go_ret
    exact ⟨rfl, R.out, only_refl _ _⟩
  · have h2 : 0 ≤ j := by omega
    have h3 : j < n := by omega
    clear h1
    by_cases h4 : t < 1
    · have E : setR n j t = 2 ∧ setS n f j t = f := by unfold setR setS; rw [if_pos (by omega), if_pos (by omega)]; exact ⟨rfl, rfl⟩
      rw [E.1, E.2]; clear E
      go_enter Try.func18, Try.ntmps18
      go_wp2_with fail
      refine (has_in h q n f j _ R.out h2 h3).mono ?_; rintro e w' ⟨rfl, rfl⟩
      go_wp2_with fail
      go_ret
      exact ⟨rfl, R.out, only_refl _ _⟩
    · by_cases h5 : 10000 < t
      · have E : setR n j t = 2 ∧ setS n f j t = f := by unfold setR setS; rw [if_pos (by omega), if_pos (by omega)]; exact ⟨rfl, rfl⟩
        rw [E.1, E.2]; clear E
        go_enter Try.func18, Try.ntmps18
        go_wp2_with fail
        refine (has_in h q n f j _ R.out h2 h3).mono ?_; rintro e w' ⟨rfl, rfl⟩
        go_wp2_with fail
        go_ret
        exact ⟨rfl, R.out, only_refl _ _⟩
      · have E : setR n j t = 0 ∧ setS n f j t = upd f j.toNat t := by unfold setR setS; rw [if_neg (by omega), if_neg (by omega)]; exact ⟨rfl, rfl⟩
        rw [E.1, E.2]; clear E
        obtain ⟨k, rfl⟩ := Int.eq_ofNat_of_zero_le h2
        rw [Int.toNat_natCast]
        have c0 := R.out.c0
        have c1 := R.out.cell k (by omega)
        have z1 := R.out.frozen k
        go_enter Try.func18, Try.ntmps18
        go_wp2_with fail
        refine (has_in h q n f k _ R.out h2 h3).mono ?_; rintro e w' ⟨rfl, rfl⟩
        go_wp2_with fail
        go_ret
        exact ⟨rfl, R.out.stored k t, only_setCell (only_refl _ _) (.inl rfl) _⟩

theorem rclear_any (h q n : Nat) (f : Nat → Int) (j : Int) (w : World) (r : RK h q n f w) :
    Calls Try.prog 19 #[.pointer (some ⟨h, 0, none⟩), .int .i64 j] w fun e w' => e = .returned (.int .i64 (clearR n j)) ∧ RK h q n (clearS n f j) w' ∧ w.grownBy w' (some q) := by
  have R := Lib.hid r; clear r
  have hn1 := R.out.2.2.1
  have hn2 := R.out.2.2.2
  by_cases h1 : j < 0 ∨ n ≤ j
  · have E : clearR n j = 2 ∧ clearS n f j = f := by unfold clearR clearS; rw [if_pos (by omega), if_pos (by omega)]; exact ⟨rfl, rfl⟩
    rw [E.1, E.2]; clear E
    go_enter Try.func19, Try.ntmps19
    go_wp2_with fail
    refine (has_out h q n f j _ R.out h1).mono ?_; rintro e w' ⟨rfl, rfl⟩
    go_wp2_with fail
    go_ret
    exact ⟨rfl, R.out, only_refl _ _⟩
  · have h2 : 0 ≤ j := by omega
    have h3 : j < n := by omega
    have E : clearR n j = 0 ∧ clearS n f j = upd f j.toNat 0 := by unfold clearR clearS; rw [if_neg (by omega), if_neg (by omega)]; exact ⟨rfl, rfl⟩
    rw [E.1, E.2]; clear E h1
    obtain ⟨k, rfl⟩ := Int.eq_ofNat_of_zero_le h2
    rw [Int.toNat_natCast]
    have c0 := R.out.c0
    have c1 := R.out.cell k (by omega)
    have z1 := R.out.frozen k
    go_enter Try.func19, Try.ntmps19
    go_wp2_with fail
    refine (has_in h q n f k _ R.out h2 h3).mono ?_; rintro e w' ⟨rfl, rfl⟩
    go_wp2_with fail
    go_ret
    exact ⟨rfl, R.out.stored k 0, only_setCell (only_refl _ _) (.inl rfl) _⟩

theorem rfire_any (h q n : Nat) (f : Nat → Int) (j : Int) (w : World) (r : RK h q n f w) :
    Calls Try.prog 20 #[.pointer (some ⟨h, 0, none⟩), .int .i64 j] w fun e w' => e = .returned (.int .i64 (fireR n f j)) ∧ RK h q n (clearS n f j) w' ∧ w.grownBy w' (some q) := by
  have R := Lib.hid r; clear r
  have hn1 := R.out.2.2.1
  have hn2 := R.out.2.2.2
  by_cases h1 : j < 0 ∨ n ≤ j
  · have E : fireR n f j = 2 ∧ clearS n f j = f := by unfold fireR clearS; rw [if_pos (by omega), if_pos (by omega)]; exact ⟨rfl, rfl⟩
    rw [E.1, E.2]; clear E
    go_enter Try.func20, Try.ntmps20
    go_wp2_with fail
    refine (has_out h q n f j _ R.out h1).mono ?_; rintro e w' ⟨rfl, rfl⟩
    go_wp2_with fail
    go_ret
    exact ⟨rfl, R.out, only_refl _ _⟩
  · have h2 : 0 ≤ j := by omega
    have h3 : j < n := by omega
    have E : fireR n f j = (if f j.toNat = 0 then 80 else 0) ∧ clearS n f j = upd f j.toNat 0 := by unfold fireR clearS; rw [if_neg h1, if_neg h1]; exact ⟨rfl, rfl⟩
    rw [E.1, E.2]; clear E h1
    obtain ⟨k, rfl⟩ := Int.eq_ofNat_of_zero_le h2
    rw [Int.toNat_natCast]
    have c0 := R.out.c0
    have c1 := R.out.cell k (by omega)
    have z1 := R.out.frozen k
    by_cases h0 : f k = 0
    · rw [if_pos h0]
      have hu : ∀ i, i < n → f i = upd f k 0 i := fun i _ => by unfold upd; split <;> simp_all
      have HU := Lib.hid hu; clear hu
      have b1 : (f k == 0) = true := by simp [h0]
      have H0 := Lib.hid h0; clear h0
      go_enter Try.func20, Try.ntmps20
      go_wp2_with fail
      refine (has_in h q n f k _ R.out h2 h3).mono ?_; rintro e w' ⟨rfl, rfl⟩
      go_wp2_with fail
      go_ret
      exact ⟨rfl, R.out.congr HU.out, only_refl _ _⟩
    · rw [if_neg h0]
      have b1 : (f k == 0) = false := by simp [h0]
      go_enter Try.func20, Try.ntmps20
      go_wp2_with fail
      refine (has_in h q n f k _ R.out h2 h3).mono ?_; rintro e w' ⟨rfl, rfl⟩
      go_wp2_with fail
      go_ret
      exact ⟨rfl, R.out.stored k 0, only_setCell (only_refl _ _) (.inl rfl) _⟩

theorem rnew_bad (n : Int) (w : World) (h : n < 1 ∨ 16 < n) : Calls Try.prog 17 #[.int .i64 n] w fun e w' => e = .returned (.tuple #[.pointer none, .int .i64 2]) ∧ w = w' := by
  by_cases h1 : n < 1
  · go_enter Try.func17, Try.ntmps17
    go_wp2
    go_ret2
    exact ⟨rfl, rfl⟩
  · have h2 : 16 < n := by omega
    go_enter Try.func17, Try.ntmps17
    go_wp2
    go_ret2
    exact ⟨rfl, rfl⟩
theorem rnew_any (n : Nat) (w : World) (h1 : 1 ≤ n) (h2 : n ≤ 16) : Calls Try.prog 17 #[.int .i64 (n : Int)] w fun e w' =>
    e = .returned (.tuple #[.pointer (some ⟨w.heap.size + 1, 0, none⟩), .int .i64 0]) ∧ RK (w.heap.size + 1) w.heap.size n (fun _ => 0) w' ∧ w.grownBy w' none := by
  obtain ⟨i0, hi0, hz0, hz1, hz2⟩ := info_parts A_info3
  have hmk : ∀ w : World, (Instr.makeSlice 33 (.int .i64 (n : Int)) (.int .i64 (n : Int))).run Try.prog w = .ok (.slice (some ⟨w.heap.size, 0, none⟩) n n) (w.alloc (.cells (lc n (fun _ => 0)) 3)) := fun w => by
    have := run_make (P := Try.prog) w 33 3 i0 _ Try.underlying33 hi0 hz0 .i64 .i64 n n (by omega) (by omega) (by rw [hz2]; omega) (by omega)
    rw [this, hz1]
    simp only [Int.toNat_natCast, Nat.mul_one]
    rw [← lc_zero]
    rfl
  go_enter Try.func17, Try.ntmps17
  go_wp2
  go_ret2
  refine ⟨rfl, ⟨?_, ?_, h1, h2⟩, only_alloc (only_alloc (only_refl _ _) _) _⟩
  · have hb := Blk.new (w.alloc (.cells (lc n (fun _ => 0)) 3)) 53 #[.slice (some ⟨w.heap.size, 0, none⟩) n n]
    rw [show (w.alloc (.cells (lc n (fun _ => 0)) 3)).heap.size = w.heap.size + 1 by simp] at hb
    exact hb
  · exact (Blk.new w 3 (lc n (fun _ => 0))).alloc _
end Go.Proofs.Ytlhcefpdkoliaaa
