/- The walks of the layer 8 (alarm): the program's timers, each function once but Tick. -/
import Derived.Test.YtlhcefpdkoliaaaKit
import Derived.Maps.OwnSet
namespace Go.Proofs.Ytlhcefpdkoliaaa
open Go.ChangeShapes Go.WideShapes Go.ChangeAt Go.RowKit Go.Deep Go.Maps

theorem law3 : Keyed Try.prog 3 := int_keyed Try.underlying3
theorem zero3 (w : World) : (zeroValue 3).run Try.prog w = .ok (.int .i64 0) w := by kernel_rfl
theorem A_info3 : (Try.prog.info? 3).map (fun i => (i.zero, i.size, i.bytes)) = some (some (.int .i64 0), 1, 8) := by kernel_rfl

/-! ### Plain: how many ticks are left of each; 0: not set -/
def upd (f : Nat → Int) (j : Nat) (v : Int) : Nat → Int := fun k => if k = j then v else f k
def cnt (f : Nat → Int) : Nat → Nat
  | 0 => 0
  | k + 1 => cnt f k + if f k = 0 then 0 else 1
theorem cnt_le (f : Nat → Int) (n : Nat) : cnt f n ≤ n := by
  induction n with
  | zero => simp [cnt]
  | succ n ih => simp only [cnt]; split <;> omega
theorem cnt_out (f : Nat → Int) (j : Nat) (v : Int) (n : Nat) (h : n ≤ j) : cnt (upd f j v) n = cnt f n := by
  induction n with
  | zero => rfl
  | succ n ih =>
    simp only [cnt, ih (by omega)]
    rw [show upd f j v n = f n by simp [upd]; omega]
theorem cnt_upd (f : Nat → Int) (j : Nat) (v : Int) (n : Nat) (h : j < n) : cnt (upd f j v) n + (if f j = 0 then 0 else 1) = cnt f n + (if v = 0 then 0 else 1) := by
  induction n with
  | zero => omega
  | succ n ih =>
    simp only [cnt]
    by_cases hj : j = n
    · subst hj
      rw [cnt_out f j v j (Nat.le_refl _), show upd f j v j = v by simp [upd]]
      omega
    · have := ih (by omega)
      rw [show upd f j v n = f n by simp [upd]; omega]
      omega

/-- The key of timer k. -/
abbrev key (k : Nat) : Lit := .int .i64 (k : Int)
theorem key_ne {k j : Nat} (h : k ≠ j) : key k ≠ key j := by
  intro e
  injection e with _ e
  omega
/-- The map reads as the ticks that are left. -/
def Mp (n : Nat) (f : Nat → Int) (D : DataW Unit) : Prop :=
  Maps.size D = cnt f n ∧ (∀ k, k < n → Maps.has D (key k) = decide (f k ≠ 0)) ∧ (∀ k, k < n → D.atKey (key k) (.lit (.int .i64 0)) = .lit (.int .i64 (f k))) ∧ ∀ k, k < n → 0 ≤ f k ∧ f k ≤ 10000
theorem Mp.start (n : Nat) : Mp n (fun _ => 0) (.map []) := by
  refine ⟨?_, fun k _ => ?_, fun k _ => ?_, fun k _ => by simp⟩
  · have : ∀ n, cnt (fun _ => 0) n = 0 := fun n => by induction n with
      | zero => rfl
      | succ n ih => simp [cnt, ih]
    rw [this]; rfl
  · rfl
  · rfl
theorem Mp.put {n : Nat} {f : Nat → Int} {D : DataW Unit} (h : Mp n f D) (ht : Tidy D) {j : Nat} (hj : j < n) {v : Int} (h1 : 1 ≤ v) (h2 : v ≤ 10000) (hk : WideAt.IsKeyLit (key j)) : Mp n (upd f j v) (D.put (key j) (.lit (.int .i64 v))) := by
  obtain ⟨a, b, c, d⟩ := h
  refine ⟨?_, fun k hkn => ?_, fun k hkn => ?_, fun k hkn => ?_⟩
  · rw [size_put ht, b j hj, a]
    have := cnt_upd f j v n hj
    rw [if_neg (show ¬ v = 0 by omega)] at this
    by_cases hf : f j = 0
    · simp [hf] at this ⊢; omega
    · simp [hf] at this ⊢; omega
  · by_cases e : k = j
    · subst e
      rw [has_put_same ht.isMap hk]
      simp [upd]; omega
    · rw [has_put_other (key_ne e), b k hkn]
      simp [upd, e]
  · by_cases e : k = j
    · subst e
      rw [atKey_put_same ht.isMap hk]
      simp [upd]
    · rw [atKey_put_other (key_ne e), c k hkn]
      simp [upd, e]
  · by_cases e : k = j
    · simp [upd, e]; omega
    · simp only [upd, if_neg e]; exact d k hkn
theorem Mp.del {n : Nat} {f : Nat → Int} {D : DataW Unit} (h : Mp n f D) (ht : Tidy D) {j : Nat} (hj : j < n) : Mp n (upd f j 0) (D.del (key j)) := by
  obtain ⟨a, b, c, d⟩ := h
  refine ⟨?_, fun k hkn => ?_, fun k hkn => ?_, fun k hkn => ?_⟩
  · have h1 := size_del (k := key j) ht
    rw [b j hj, a] at h1
    have := cnt_upd f j 0 n hj
    by_cases hf : f j = 0
    · simp [hf] at this h1; omega
    · simp [hf] at this h1; omega
  · by_cases e : k = j
    · subst e
      rw [has_del_same]
      simp [upd]
    · rw [has_del_other (key_ne e), b k hkn]
      simp [upd, e]
  · by_cases e : k = j
    · subst e
      rw [atKey_del_same]
      simp [upd]
    · rw [atKey_del_other (key_ne e), c k hkn]
      simp [upd, e]
  · by_cases e : k = j
    · simp [upd, e]
    · simp only [upd, if_neg e]; exact d k hkn

/-! ### The timers in memory -/
/-- Block m is a map that reads as f. -/
def AM (m n : Nat) (f : Nat → Int) (w : World) : Prop := ∃ D : DataW Unit, w.ownsMap Try.prog 3 (plainElem Try.prog 3) m n D ∧ Mp n f D
theorem owns_tight {w : World} {m n : Nat} {D : DataW Unit} (h : w.ownsMap Try.prog 3 (plainElem Try.prog 3) m n D) {k : Nat} (hk : Maps.size D ≤ k) : w.ownsMap Try.prog 3 (plainElem Try.prog 3) m k D := by
  obtain ⟨es, clock, hb, F, hs, hD⟩ := h
  refine ⟨es, clock, hb, F, ?_, hD⟩
  rw [hD] at hk
  simpa [Maps.size, length_read] using hk
/-- Block g is the struct, block m its map. -/
def AK (g m n : Nat) (f : Nat → Int) (w : World) : Prop := Blk w g 42 #[.int .i64 (n : Int), .map (some m)] ∧ AM m n f w ∧ 1 ≤ n ∧ n ≤ 16
theorem AM.blk_ne {m n : Nat} {f : Nat → Int} {w : World} {g t : Nat} {cs : Array Value} (h : AM m n f w) (hb : Blk w g t cs) : g ≠ m := by
  rintro rfl
  obtain ⟨D, ⟨es, clock, hm, _⟩, _⟩ := h
  unfold Blk at hb
  rw [hm] at hb
  cases hb
theorem AM.kept {m n : Nat} {f : Nat → Int} {w w' : World} {row : Option Nat} (h : AM m n f w) (hg : w.grownBy w' row) (hne : some m ≠ row) : AM m n f w' := by
  obtain ⟨D, h1, h2⟩ := h
  exact ⟨D, h1.kept hg hne, h2⟩
theorem AM.alloc {m n : Nat} {f : Nat → Int} {w : World} (h : AM m n f w) (o : Obj) : AM m n f (w.alloc o) := h.kept (World.grownBy_alloc w o none) (by simp)
theorem AM.drewN {m n : Nat} {f : Nat → Int} {w : World} (h : AM m n f w) (k : Nat) : AM m n f (w.drewN k) := h
theorem AK.drewN {g m n : Nat} {f : Nat → Int} {w : World} (h : AK g m n f w) (k : Nat) : AK g m n f (w.drewN k) := h
theorem AK.alloc {g m n : Nat} {f : Nat → Int} {w : World} (h : AK g m n f w) (o : Obj) : AK g m n f (w.alloc o) := ⟨h.1.alloc o, h.2.1.alloc o, h.2.2⟩
theorem AK.kept {g m n : Nat} {f : Nat → Int} {w w' : World} {row : Option Nat} (h : AK g m n f w) (hg : w.grownBy w' row) (h1 : some g ≠ row) (h2 : some m ≠ row) : AK g m n f w' := ⟨h.1.grown hg h1, h.2.1.kept hg h2, h.2.2⟩
theorem AK.bd {g m n : Nat} {f : Nat → Int} {w : World} (h : AK g m n f w) : ∀ k, k < n → 0 ≤ f k ∧ f k ≤ 10000 := by
  obtain ⟨_, ⟨D, _, hm⟩, _⟩ := h
  exact hm.2.2.2
theorem AK.turned {g m n : Nat} {f f' : Nat → Int} {w w' : World} (h : AK g m n f w) (ht : w.mapTurned w' m) (hm : AM m n f' w') : AK g m n f' w' :=
  ⟨h.1.grown ht.grown (fun e => h.2.1.blk_ne h.1 (by injection e)), hm, h.2.2⟩
theorem AK.c0 {g m n : Nat} {f : Nat → Int} {w : World} (h : AK g m n f w) : w.cell? ⟨g, 0, none⟩ = some (.int .i64 (n : Int)) := h.1.cell 0
theorem AK.c1 {g m n : Nat} {f : Nat → Int} {w : World} (h : AK g m n f w) : w.cell? ⟨g, 1, none⟩ = some (.map (some m)) := h.1.cell 1

/-! ### check -/
def checkR (n : Nat) (j : Int) : Int := if j < 0 ∨ n ≤ j then 2 else 0
theorem check_any (g n : Nat) (j : Int) (v : Value) (w : World) (h : Blk w g 42 #[.int .i64 (n : Int), v]) (hn : 1 ≤ n) :
    Calls Try.prog 23 #[.pointer (some ⟨g, 0, none⟩), .int .i64 j] w fun e w' => e = .returned (.int .i64 (checkR n j)) ∧ w = w' := by
  have c0 : w.cell? ⟨g, 0, none⟩ = some (.int .i64 (n : Int)) := h.cell 0
  have hz : ((n : Int) == 0) = false := by simp; omega
  clear h
  by_cases h1 : j < 0
  · go_enter Try.func23, Try.ntmps23
    go_wp2
    go_ret
    exact ⟨r_int (by rw [checkR, if_pos (by omega)]), rfl⟩
  · by_cases h2 : (n : Int) ≤ j
    · go_enter Try.func23, Try.ntmps23
      go_wp2
      go_ret
      exact ⟨r_int (by rw [checkR, if_pos (by omega)]), rfl⟩
    · go_enter Try.func23, Try.ntmps23
      go_wp2
      go_ret
      exact ⟨r_int (by rw [checkR, if_neg (by omega)]), rfl⟩
theorem check_nil (j : Int) (w : World) : Calls Try.prog 23 #[.pointer none, .int .i64 j] w fun e w' => e = .returned (.int .i64 1) ∧ w = w' := by
  go_enter Try.func23, Try.ntmps23
  go_wp2
  go_ret
  exact ⟨rfl, rfl⟩
theorem check_zero (g : Nat) (j : Int) (v : Value) (w : World) (h : Blk w g 42 #[.int .i64 0, v]) :
    Calls Try.prog 23 #[.pointer (some ⟨g, 0, none⟩), .int .i64 j] w fun e w' => e = .returned (.int .i64 1) ∧ w = w' := by
  have c0 : w.cell? ⟨g, 0, none⟩ = some (.int .i64 0) := h.cell 0
  clear h
  go_enter Try.func23, Try.ntmps23
  go_wp2
  go_ret
  exact ⟨rfl, rfl⟩
theorem check_in (g n : Nat) (j : Int) (v : Value) (w : World) (h : Blk w g 42 #[.int .i64 (n : Int), v]) (hn : 1 ≤ n) (h1 : 0 ≤ j) (h2 : j < n) :
    Calls Try.prog 23 #[.pointer (some ⟨g, 0, none⟩), .int .i64 j] w fun e w' => e = .returned (.int .i64 0) ∧ w = w' :=
  (check_any g n j v w h hn).mono fun e w' ⟨he, hw⟩ => ⟨by rw [he, checkR, if_neg (by omega)], hw⟩
theorem check_out (g n : Nat) (j : Int) (v : Value) (w : World) (h : Blk w g 42 #[.int .i64 (n : Int), v]) (hn : 1 ≤ n) (h1 : j < 0 ∨ n ≤ j) :
    Calls Try.prog 23 #[.pointer (some ⟨g, 0, none⟩), .int .i64 j] w fun e w' => e = .returned (.int .i64 2) ∧ w = w' :=
  (check_any g n j v w h hn).mono fun e w' ⟨he, hw⟩ => ⟨by rw [he, checkR, if_pos (by omega)], hw⟩

/-! ### Set -/
def setR (n : Nat) (j t : Int) : Int := if j < 0 ∨ n ≤ j ∨ t < 1 ∨ 10000 < t then 2 else 0
def setS (n : Nat) (f : Nat → Int) (j t : Int) : Nat → Int := if j < 0 ∨ n ≤ j ∨ t < 1 ∨ 10000 < t then f else upd f j.toNat t
theorem wf_i (a : Int) (h : -9223372036854775808 ≤ a ∧ a ≤ 9223372036854775807) : (Lit.int .i64 a).wf = true := WalkArith.wf_i64 ⟨h.1, h.2⟩
set_option maxHeartbeats 1000000 in
theorem set_any (g m n : Nat) (f : Nat → Int) (j t : Int) (w : World) (h : AK g m n f w) :
    Calls Try.prog 10 #[.pointer (some ⟨g, 0, none⟩), .int .i64 j, .int .i64 t] w fun e w' => e = .returned (.int .i64 (setR n j t)) ∧ AK g m n (setS n f j t) w' ∧ w.grownBy w' (some m) := by
  have H := Lib.hid h; clear h
  have hn1 := H.out.2.2.1
  have hn2 := H.out.2.2.2
  by_cases h1 : j < 0 ∨ n ≤ j
  · have E : setR n j t = 2 ∧ setS n f j t = f := by unfold setR setS; rw [if_pos (by omega), if_pos (by omega)]; exact ⟨rfl, rfl⟩
    rw [E.1, E.2]; clear E
    go_enter Try.func10, Try.ntmps10
    go_wp2_with fail
    refine (check_out g n j _ _ H.out.1 hn1 h1).mono ?_; rintro e w' ⟨rfl, rfl⟩
    go_wp2_with fail
    go_ret
    exact ⟨rfl, H.out, only_refl _ _⟩
  · have h2 : 0 ≤ j := by omega
    have h3 : j < n := by omega
    clear h1
    by_cases h4 : t < 1
    · have E : setR n j t = 2 ∧ setS n f j t = f := by unfold setR setS; rw [if_pos (by omega), if_pos (by omega)]; exact ⟨rfl, rfl⟩
      rw [E.1, E.2]; clear E
      go_enter Try.func10, Try.ntmps10
      go_wp2_with fail
      refine (check_in g n j _ _ H.out.1 hn1 h2 h3).mono ?_; rintro e w' ⟨rfl, rfl⟩
      go_wp2_with fail
      go_ret
      exact ⟨rfl, H.out, only_refl _ _⟩
    · by_cases h5 : 10000 < t
      · have E : setR n j t = 2 ∧ setS n f j t = f := by unfold setR setS; rw [if_pos (by omega), if_pos (by omega)]; exact ⟨rfl, rfl⟩
        rw [E.1, E.2]; clear E
        go_enter Try.func10, Try.ntmps10
        go_wp2_with fail
        refine (check_in g n j _ _ H.out.1 hn1 h2 h3).mono ?_; rintro e w' ⟨rfl, rfl⟩
        go_wp2_with fail
        go_ret
        exact ⟨rfl, H.out, only_refl _ _⟩
      · have E : setR n j t = 0 ∧ setS n f j t = upd f j.toNat t := by unfold setR setS; rw [if_neg (by omega), if_neg (by omega)]; exact ⟨rfl, rfl⟩
        rw [E.1, E.2]; clear E
        obtain ⟨k, rfl⟩ := Int.eq_ofNat_of_zero_le h2
        rw [Int.toNat_natCast]
        have c1 := H.out.c1
        obtain ⟨D, hown, hmp⟩ := H.out.2.1
        have HO := Lib.hid hown; clear hown
        have HM := Lib.hid hmp; clear hmp
        have hkey : keyOf Try.prog 3 (.int .i64 (k : Int)) = some (key k) := keyOf_int_mk Try.underlying3 (wf_i _ (by omega))
        have HK := Lib.hid hkey; clear hkey
        go_enter Try.func10, Try.ntmps10
        go_wp2_with fail
        refine (check_in g n k _ _ H.out.1 hn1 h2 h3).mono ?_; rintro e w' ⟨rfl, rfl⟩
        go_wp2_with (first | (at_mapUpdate; refine wpList_mapUpdate_in _ rfl _ _ _ 40 rfl 3 3 law3 Try.underlying40 _ m n D rfl HO.out (by unfold maxLen; omega) _ _ _ rfl rfl HK.out (.lit (.int .i64 t)) [] (plainElem_int Try.underlying3 (wf_i _ (by omega))) ?_; intro w1 hown1 hturn1))
        have HO1 := Lib.hid hown1; clear hown1
        have HT := Lib.hid hturn1; clear hturn1
        go_wp2_with fail
        go_ret
        have hm' := HM.out.put (HO.out.tidy law3) (by omega : k < n) (by omega) (by omega) (law3.key HK.out)
        exact ⟨rfl, H.out.turned HT.out ⟨_, owns_tight HO1.out (by rw [hm'.1]; exact cnt_le _ _), hm'⟩, HT.out.grown⟩

/-! ### Clear, Left, Fire -/
def clearR (n : Nat) (j : Int) : Int := if j < 0 ∨ n ≤ j then 2 else 0
def clearS (n : Nat) (f : Nat → Int) (j : Int) : Nat → Int := if j < 0 ∨ n ≤ j then f else upd f j.toNat 0
set_option maxHeartbeats 1000000 in
theorem clear_any (g m n : Nat) (f : Nat → Int) (j : Int) (w : World) (h : AK g m n f w) :
    Calls Try.prog 11 #[.pointer (some ⟨g, 0, none⟩), .int .i64 j] w fun e w' => e = .returned (.int .i64 (clearR n j)) ∧ AK g m n (clearS n f j) w' ∧ w.grownBy w' (some m) := by
  have H := Lib.hid h; clear h
  have hn1 := H.out.2.2.1
  have hn2 := H.out.2.2.2
  by_cases h1 : j < 0 ∨ n ≤ j
  · have E : clearR n j = 2 ∧ clearS n f j = f := by unfold clearR clearS; rw [if_pos (by omega), if_pos (by omega)]; exact ⟨rfl, rfl⟩
    rw [E.1, E.2]; clear E
    go_enter Try.func11, Try.ntmps11
    go_wp2_with fail
    refine (check_out g n j _ _ H.out.1 hn1 h1).mono ?_; rintro e w' ⟨rfl, rfl⟩
    go_wp2_with fail
    go_ret
    exact ⟨rfl, H.out, only_refl _ _⟩
  · have h2 : 0 ≤ j := by omega
    have h3 : j < n := by omega
    have E : clearR n j = 0 ∧ clearS n f j = upd f j.toNat 0 := by unfold clearR clearS; rw [if_neg (by omega), if_neg (by omega)]; exact ⟨rfl, rfl⟩
    rw [E.1, E.2]; clear E h1
    obtain ⟨k, rfl⟩ := Int.eq_ofNat_of_zero_le h2
    rw [Int.toNat_natCast]
    have c1 := H.out.c1
    obtain ⟨D, hown, hmp⟩ := H.out.2.1
    have HO := Lib.hid hown; clear hown
    have HM := Lib.hid hmp; clear hmp
    have hkey : keyOf Try.prog 3 (.int .i64 (k : Int)) = some (key k) := keyOf_int_mk Try.underlying3 (wf_i _ (by omega))
    have HK := Lib.hid hkey; clear hkey
    go_enter Try.func11, Try.ntmps11
    go_wp2_with fail
    refine (check_in g n k _ _ H.out.1 hn1 h2 h3).mono ?_; rintro e w' ⟨rfl, rfl⟩
    go_wp2_with (first | (at_delete; refine wpList_delete_own _ rfl _ _ 40 3 rfl 3 law3 Try.underlying40 _ m n D rfl HO.out _ _ rfl HK.out ?_; intro w1 hown1 hturn1))
    have HO1 := Lib.hid hown1; clear hown1
    have HT := Lib.hid hturn1; clear hturn1
    go_wp2_with fail
    go_ret
    have hm' := HM.out.del (HO.out.tidy law3) (by omega : k < n)
    exact ⟨rfl, H.out.turned HT.out ⟨_, HO1.out, hm'⟩, HT.out.grown⟩

def leftR (n : Nat) (f : Nat → Int) (j : Int) : Int := if j < 0 ∨ n ≤ j then 0 else f j.toNat
set_option maxHeartbeats 1000000 in
theorem left_any (g m n : Nat) (f : Nat → Int) (j : Int) (w : World) (h : AK g m n f w) :
    Calls Try.prog 15 #[.pointer (some ⟨g, 0, none⟩), .int .i64 j] w fun e w' => e = .returned (.int .i64 (leftR n f j)) ∧ w = w' := by
  have H := Lib.hid h; clear h
  have hn1 := H.out.2.2.1
  have hn2 := H.out.2.2.2
  by_cases h1 : j < 0 ∨ n ≤ j
  · have E : leftR n f j = 0 := by unfold leftR; rw [if_pos (by omega)]
    rw [E]; clear E
    go_enter Try.func15, Try.ntmps15
    go_wp2_with fail
    refine (check_out g n j _ _ H.out.1 hn1 h1).mono ?_; rintro e w' ⟨rfl, rfl⟩
    go_wp2_with fail
    go_ret
    exact ⟨rfl, rfl⟩
  · have h2 : 0 ≤ j := by omega
    have h3 : j < n := by omega
    have E : leftR n f j = f j.toNat := by unfold leftR; rw [if_neg (by omega)]
    rw [E]; clear E h1
    obtain ⟨k, rfl⟩ := Int.eq_ofNat_of_zero_le h2
    rw [Int.toNat_natCast]
    have c1 := H.out.c1
    obtain ⟨D, hown, hmp⟩ := H.out.2.1
    have HO := Lib.hid hown; clear hown
    have HM := Lib.hid hmp; clear hmp
    have hkey : keyOf Try.prog 3 (.int .i64 (k : Int)) = some (key k) := keyOf_int_mk Try.underlying3 (wf_i _ (by omega))
    have HK := Lib.hid hkey; clear hkey
    go_enter Try.func15, Try.ntmps15
    go_wp2_with fail
    refine (check_in g n k _ _ H.out.1 hn1 h2 h3).mono ?_; rintro e w' ⟨rfl, rfl⟩
    go_wp2_with (first | (at_lookup; refine wpList_lookup_own_int _ rfl _ _ 40 rfl 3 3 .i64 law3 Try.underlying40 Try.underlying3 (zero3 _) m n D rfl HO.out _ _ rfl HK.out ?_; intro c hat hwc))
    have HC : Hid (c = f k) := Lib.hid (by
      rw [HM.out.2.2.1 k (by omega)] at hat
      injection hat with hat
      injection hat with _ hat
      exact hat.symm)
    clear hat hwc
    go_wp2_with fail
    go_ret
    exact ⟨r_int HC.out, rfl⟩

def fireR (n : Nat) (f : Nat → Int) (j : Int) : Int := if j < 0 ∨ n ≤ j then 2 else if f j.toNat = 0 then 80 else 0
set_option maxHeartbeats 1000000 in
theorem fire_any (g m n : Nat) (f : Nat → Int) (j : Int) (w : World) (h : AK g m n f w) :
    Calls Try.prog 12 #[.pointer (some ⟨g, 0, none⟩), .int .i64 j] w fun e w' => e = .returned (.int .i64 (fireR n f j)) ∧ AK g m n (clearS n f j) w' ∧ w.grownBy w' (some m) := by
  have H := Lib.hid h; clear h
  have hn1 := H.out.2.2.1
  have hn2 := H.out.2.2.2
  by_cases h1 : j < 0 ∨ n ≤ j
  · have E : fireR n f j = 2 ∧ clearS n f j = f := by unfold fireR clearS; rw [if_pos (by omega), if_pos (by omega)]; exact ⟨rfl, rfl⟩
    rw [E.1, E.2]; clear E
    go_enter Try.func12, Try.ntmps12
    go_wp2_with fail
    refine (check_out g n j _ _ H.out.1 hn1 h1).mono ?_; rintro e w' ⟨rfl, rfl⟩
    go_wp2_with fail
    go_ret
    exact ⟨rfl, H.out, only_refl _ _⟩
  · have h2 : 0 ≤ j := by omega
    have h3 : j < n := by omega
    obtain ⟨k, rfl⟩ := Int.eq_ofNat_of_zero_le h2
    have c1 := H.out.c1
    obtain ⟨D, hown, hmp⟩ := H.out.2.1
    have hh := hmp.2.1 k (by omega)
    have HO := Lib.hid hown; clear hown
    have HM := Lib.hid hmp; clear hmp
    have hkey : keyOf Try.prog 3 (.int .i64 (k : Int)) = some (key k) := keyOf_int_mk Try.underlying3 (wf_i _ (by omega))
    have HK := Lib.hid hkey; clear hkey
    by_cases hf : f k = 0
    · have hh1 : Maps.has D (.int .i64 (k : Int)) = false := by rw [hh]; simp [hf]
      have hu : upd f k 0 = f := by funext i; unfold upd; split <;> simp_all
      have E : fireR n f k = 80 ∧ clearS n f k = f := ⟨by unfold fireR; rw [if_neg (by omega), Int.toNat_natCast, if_pos hf], by unfold clearS; rw [if_neg (by omega), Int.toNat_natCast, hu]⟩
      rw [E.1, E.2]; clear E hu hf h1 hh
      go_enter Try.func12, Try.ntmps12
      go_wp2_with fail
      refine (check_in g n k _ _ H.out.1 hn1 h2 h3).mono ?_; rintro e w' ⟨rfl, rfl⟩
      go_wp2_with (first | (at_lookup; refine wpList_lookup_own_ok_int _ rfl _ _ 40 rfl 3 3 .i64 law3 Try.underlying40 Try.underlying3 (zero3 _) m n D rfl HO.out _ _ rfl HK.out ?_; intro c hat hwc))
      go_ret
      exact ⟨rfl, H.out, only_refl _ _⟩
    · have hh1 : Maps.has D (.int .i64 (k : Int)) = true := by rw [hh]; simp [hf]
      have E : fireR n f k = 0 ∧ clearS n f k = upd f k 0 := ⟨by unfold fireR; rw [if_neg (by omega), Int.toNat_natCast, if_neg hf], by unfold clearS; rw [if_neg (by omega), Int.toNat_natCast]⟩
      rw [E.1, E.2]; clear E hf h1 hh
      go_enter Try.func12, Try.ntmps12
      go_wp2_with fail
      refine (check_in g n k _ _ H.out.1 hn1 h2 h3).mono ?_; rintro e w' ⟨rfl, rfl⟩
      go_wp2_with (first | (at_lookup; refine wpList_lookup_own_ok_int _ rfl _ _ 40 rfl 3 3 .i64 law3 Try.underlying40 Try.underlying3 (zero3 _) m n D rfl HO.out _ _ rfl HK.out ?_; intro c hat hwc) | (at_delete; refine wpList_delete_own _ rfl _ _ 40 3 rfl 3 law3 Try.underlying40 _ m n D rfl HO.out _ _ rfl HK.out ?_; intro w1 hown1 hturn1))
      have HO1 := Lib.hid hown1; clear hown1
      have HT := Lib.hid hturn1; clear hturn1
      go_wp2_with fail
      go_ret
      have hm' := HM.out.del (HO.out.tidy law3) (by omega : k < n)
      exact ⟨rfl, H.out.turned HT.out ⟨_, HO1.out, hm'⟩, HT.out.grown⟩

/-! ### New -/
theorem new_bad (n : Int) (w : World) (h : n < 1 ∨ 16 < n) : Calls Try.prog 9 #[.int .i64 n] w fun e w' => e = .returned (.tuple #[.pointer none, .int .i64 2]) ∧ w = w' := by
  by_cases h1 : n < 1
  · go_enter Try.func9, Try.ntmps9
    go_wp2
    go_ret2
    exact ⟨rfl, rfl⟩
  · have h2 : 16 < n := by omega
    clear h
    go_enter Try.func9, Try.ntmps9
    go_wp2
    go_ret2
    exact ⟨rfl, rfl⟩
theorem new_any (n : Nat) (w : World) (h1 : 1 ≤ n) (h2 : n ≤ 16) : Calls Try.prog 9 #[.int .i64 (n : Int)] w fun e w' =>
    e = .returned (.tuple #[.pointer (some ⟨w.heap.size + 1, 0, none⟩), .int .i64 0]) ∧ w' = (w.alloc (.map #[] 0)).alloc (.cells #[.int .i64 (n : Int), .map (some w.heap.size)] 42) := by
  have hmm := @run_makeMap Try.prog
  go_enter Try.func9, Try.ntmps9
  go_wp2
  go_ret2
  exact ⟨rfl, rfl⟩
theorem new_ak (n : Nat) (w : World) (h1 : 1 ≤ n) (h2 : n ≤ 16) : AK (w.heap.size + 1) w.heap.size n (fun _ => 0) ((w.alloc (.map #[] 0)).alloc (.cells #[.int .i64 (n : Int), .map (some w.heap.size)] 42)) := by
  have hb := Blk.new (w.alloc (.map #[] 0)) 42 #[.int .i64 (n : Int), .map (some w.heap.size)]
  rw [show (w.alloc (.map #[] 0)).heap.size = w.heap.size + 1 by simp] at hb
  exact ⟨hb, ⟨.map [], ((World.ownsMap_made w Try.prog 3 _).mono (Nat.zero_le _)).alloc _, Mp.start n⟩, h1, h2⟩
end Go.Proofs.Ytlhcefpdkoliaaa
