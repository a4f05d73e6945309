/- The walks of Tick, of due and of EqInts. -/
import Derived.Test.YtlhcefpdkoliaaaWalks
namespace Go.Proofs.Ytlhcefpdkoliaaa
open Go.ChangeShapes Go.WideShapes Go.ChangeAt Go.RowKit Go.Deep Go.Maps

/-- Who is due of those below k. -/
def dueL (f : Nat → Int) : Nat → List Int
  | 0 => []
  | k + 1 => if f k = 1 then dueL f k ++ [(k : Int)] else dueL f k
theorem dueL_len (f : Nat → Int) (k : Nat) : (dueL f k).length ≤ k := by
  induction k with
  | zero => simp [dueL]
  | succ k ih => simp only [dueL]; split <;> (try simp) <;> omega
/-- A tick has passed. -/
def tk (f : Nat → Int) : Nat → Int := fun i => if f i = 0 then 0 else f i - 1
def tkTo (f : Nat → Int) (k : Nat) : Nat → Int := fun i => if i < k then tk f i else f i

theorem cnt_congr {f f' : Nat → Int} {n : Nat} (h : ∀ k, k < n → f k = f' k) : cnt f n = cnt f' n := by
  induction n with
  | zero => rfl
  | succ n ih => simp only [cnt, ih (fun k hk => h k (by omega)), h n (by omega)]
theorem AM.congr {m n : Nat} {f f' : Nat → Int} {w : World} (h : AM m n f w) (e : ∀ k, k < n → f k = f' k) : AM m n f' w := by
  obtain ⟨D, h1, a, b, c, d⟩ := h
  refine ⟨D, h1, by rw [a, cnt_congr e], fun k hk => by rw [b k hk, e k hk], fun k hk => by rw [c k hk, e k hk], fun k hk => by rw [← e k hk]; exact d k hk⟩
theorem AK.congr {g m n : Nat} {f f' : Nat → Int} {w : World} (h : AK g m n f w) (e : ∀ k, k < n → f k = f' k) : AK g m n f' w := ⟨h.1, h.2.1.congr e, h.2.2⟩

theorem own_map_ne {w : World} {base : Nat} {e : TypeId} {size : Nat} {v : Value} {l : Nat} {ys : List Value} {m n : Nat} {f : Nat → Int} (h : w.ownsRow base e size v l ys) (hm : AM m n f w) : v.ownBlock ≠ some m := by
  rcases h.2 with ⟨rfl, _⟩ | ⟨g', cap, cur, rfl, _, hh, _⟩
  · simp [Value.ownBlock]
  · intro he
    have : g' = m := by simpa [Value.ownBlock] using he
    subst this
    obtain ⟨D, ⟨es, clock, hb, _⟩, _⟩ := hm
    rw [hb] at hh
    cases hh
theorem only_trans {a b c : World} {m : Nat} {row : Option Nat} (h : a.grownBy b (some m)) (k : b.grownBy c row) (hr : ∀ j, row = some j → j = m ∨ a.heap.size ≤ j) : a.grownBy c (some m) :=
  ⟨k.os.trans h.os, k.tape.trans h.tape, k.output.trans h.output, Nat.le_trans h.size k.size, fun i hi hne => (k.block i (Nat.lt_of_lt_of_le hi h.size) (fun e => by
    rcases hr i e.symm with h | h
    · exact hne (by rw [h])
    · omega)).trans (h.block i hi hne)⟩
theorem own_form {w : World} {base : Nat} {e : TypeId} {v : Value} {n : Nat} {ys : List Value} (h : w.ownsRow base e 1 v n ys) :
    ∃ (A : Option Addr) (c : Nat), v = .slice A n c ∧ n ≤ c ∧ c ≤ maxLen ∧ ∀ i, i < n → ∃ g, A = some ⟨g, 0, none⟩ ∧ base ≤ g ∧ g < w.heap.size ∧ w.cell? ⟨g, i, none⟩ = ys[i]? := by
  rcases h.2 with ⟨rfl, rfl⟩ | ⟨g, c, cur, rfl, hb, hh, hn, hc, hs, ht⟩
  · exact ⟨none, 0, rfl, by omega, by simp [maxLen], fun i hi => absurd hi (by omega)⟩
  · exact ⟨_, c, rfl, hn, hc, fun i hi => ⟨g, rfl, hb, (h.lt g rfl).2, h.cellAt i (by omega)⟩⟩

set_option maxRecDepth 100000 in
set_option maxHeartbeats 2000000 in
theorem tick_any (g m n : Nat) (f : Nat → Int) (w : World) (h : AK g m n f w) :
    Calls Try.prog 16 #[.pointer (some ⟨g, 0, none⟩)] w fun e w' => ∃ v, e = .returned (.tuple #[v, .int .i64 0]) ∧ w'.ownsRow w.heap.size 3 1 v (dueL f n).length ((dueL f n).map (Value.int .i64)) ∧ AK g m n (tk f) w' ∧ w.grownBy w' (some m) := by
  have H := Lib.hid h; clear h
  have hn1 := H.out.2.2.1
  have hn2 := H.out.2.2.2
  have c0 := H.out.c0
  obtain ⟨i0, hi0, hz0, hz1, hz2⟩ := info_parts A_info3
  go_enter Try.func16, Try.ntmps16
  go_wp2_with fail
  refine (check_in g n 0 _ _ H.out.1 hn1 (by omega) (by omega)).mono ?_; rintro e w' ⟨rfl, rfl⟩
  go_wp2_with fail
  go_loopw [5, 18] (fun v i wr => ∃ k : Nat, k ≤ n ∧ i = .int .i64 k ∧ wr.ownsRow w.heap.size 3 1 v (dueL f k).length ((dueL f k).map (Value.int .i64)) ∧ AK g m n (tkTo f k) wr ∧ w.grownBy wr (some m)) (fun _ i _ => n - (intOf i).toNat)
  case atStart => exact ⟨0, by omega, rfl, World.ownsRow_nil _ _ _ _, H.out.congr (fun k _ => by simp [tkTo]), only_refl _ _⟩
  case round =>
    obtain ⟨k, hk, rfl, hown, hak, hgr⟩ := hrel
    by_cases hlt : k < n
    · have hl := dueL_len f k
      have hbd := hak.bd k hlt
      have hfk : tkTo f k k = f k := by simp [tkTo]
      rw [hfk] at hbd
      have c1 := hak.c1
      obtain ⟨D, ho, hmp⟩ := hak.2.1
      have hh := hmp.2.1 k hlt
      have ha := hmp.2.2.1 k hlt
      rw [hfk] at hh ha
      have HO := Lib.hid ho; clear ho
      have HM := Lib.hid hmp; clear hmp
      have HAK := Lib.hid hak; clear hak
      have HOW := Lib.hid hown; clear hown
      have HGR := Lib.hid hgr; clear hgr
      have HA := Lib.hid ha; clear ha hfk
      have hkey : keyOf Try.prog 3 (.int .i64 (k : Int)) = some (key k) := keyOf_int_mk Try.underlying3 (wf_i _ (by omega))
      have HK := Lib.hid hkey; clear hkey
      have hsz := HGR.out.size
      by_cases hf0 : f k = 0
      · have hh1 : Maps.has D (.int .i64 (k : Int)) = false := by rw [hh]; simp [hf0]
        have E : Hid (dueL f (k + 1) = dueL f k ∧ ∀ i, i < n → tkTo f k i = tkTo f (k + 1) i) := Lib.hid ⟨by simp [dueL, hf0], fun i _ => by
          unfold tkTo tk
          by_cases h1 : i < k
          · rw [if_pos h1, if_pos (show i < k + 1 by omega)]
          · by_cases h2 : i = k
            · subst h2; rw [if_neg h1, if_pos (show i < i + 1 by omega), hf0]; simp
            · rw [if_neg h1, if_neg (show ¬ i < k + 1 by omega)]⟩
        clear hh hf0
        go_wp2_with (first | (at_lookup; refine wpList_lookup_own_ok_int _ rfl _ _ 40 rfl 3 3 .i64 law3 Try.underlying40 Try.underlying3 (zero3 _) m n D rfl HO.out _ _ rfl HK.out ?_; intro c hat hwc))
        go_roundw
        case rel => exact ⟨k + 1, by omega, by go_num, by rw [E.out.1]; exact HOW.out, HAK.out.congr E.out.2, HGR.out⟩
        case measure => simp [intOf]; omega
      · have hh1 : Maps.has D (.int .i64 (k : Int)) = true := by rw [hh]; simp [hf0]
        by_cases hf1 : f k = 1
        · have E : Hid (dueL f (k + 1) = dueL f k ++ [(k : Int)] ∧ ∀ i, i < n → upd (tkTo f k) k 0 i = tkTo f (k + 1) i) := Lib.hid ⟨by simp [dueL, hf1], fun i _ => by
            unfold upd tkTo tk
            by_cases h1 : i < k
            · rw [if_neg (show ¬ i = k by omega), if_pos h1, if_pos (show i < k + 1 by omega)]
            · by_cases h2 : i = k
              · subst h2; rw [if_pos rfl, if_pos (show i < i + 1 by omega), hf1]; simp
              · rw [if_neg h2, if_neg h1, if_neg (show ¬ i < k + 1 by omega)]⟩
          have HA1 : Hid (D.atKey (key k) (.lit (.int .i64 0)) = .lit (.int .i64 1)) := Lib.hid (by rw [HA.out, hf1])
          clear hh hf0 hf1 HA
          go_wp2_with (first | (at_lookup; refine wpList_lookup_own_ok_int _ rfl _ _ 40 rfl 3 3 .i64 law3 Try.underlying40 Try.underlying3 (zero3 _) m n D rfl HO.out _ _ rfl HK.out ?_; intro c hat hwc; (obtain rfl : (1 : Int) = c := by (rw [HA1.out] at hat; injection hat with hat; injection hat)); clear hat hwc) | (at_delete; refine wpList_delete_own _ rfl _ _ 40 3 rfl 3 law3 Try.underlying40 _ m n D rfl HO.out _ _ rfl HK.out ?_; intro w1 hown1 hturn1; have HO1 := Lib.hid hown1; clear hown1; have HT := Lib.hid hturn1; clear hturn1; have hs1 := HT.out.grown.size; have HW1 := Lib.hid (HOW.out.kept HT.out.grown (.inr (own_map_ne HOW.out HAK.out.2.1)))) | (at_builtin; refine wpList_append_own _ rfl _ _ 33 rfl w.heap.size 3 i0 (.int .i64 0) 1 8 Try.underlying33 hi0 hz0 hz1 hz2 rfl (by decide) _ _ _ rfl (HW1.out.alloc _) ⟨w1.heap.size, 0, none⟩ 1 1 [.int .i64 (k : Int)] rfl rfl (cell_one_new _ _ _) (ints_oneCell _ [(k : Int)]) (by unfold maxLen; omega) (by omega) (by simp; omega) ?_; intro v' w2 hown2 hgrow2 _))
          have hm' : AM m n (upd (tkTo f k) k 0) w1 := ⟨_, HO1.out, HM.out.del (HO.out.tidy law3) hlt⟩
          have hak1 : AK g m n (tkTo f (k + 1)) w1 := (HAK.out.turned HT.out hm').congr E.out.2
          have hne1 := own_map_ne (HW1.out.alloc (.cells #[.int .i64 (k : Int)] 3)) (hak1.2.1.alloc (.cells #[.int .i64 (k : Int)] 3))
          have hne2 := own_blk_ne (HW1.out.alloc (.cells #[.int .i64 (k : Int)] 3)) (hak1.1.alloc (.cells #[.int .i64 (k : Int)] 3)) (by decide)
          have hak2 : AK g m n (tkTo f (k + 1)) w2 := (hak1.alloc (.cells #[.int .i64 (k : Int)] 3)).kept hgrow2 (fun e => hne2 e.symm) (fun e => hne1 e.symm)
          have hg2 : w.grownBy w2 (some m) := only_trans (only_alloc (only_trans HGR.out HT.out.grown (fun j hj => by injection hj with hj; exact .inl hj.symm)) _) hgrow2 (fun j hj => .inr (HOW.out.lt j hj).1)
          have HK2 := Lib.hid hak2; clear hak2
          have HG2 := Lib.hid hg2; clear hg2
          have HW2 := Lib.hid hown2; clear hown2
          clear hgrow2 hak1 hm' hne1 hne2
          go_wp2_with fail
          go_roundw
          case rel => exact ⟨k + 1, by omega, by go_num, by rw [E.out.1]; simpa using HW2.out, HK2.out, HG2.out⟩
          case measure => simp [intOf]; omega
        · have hx1 : (f k == 1) = false := by simp [hf1]
          have E : Hid (dueL f (k + 1) = dueL f k ∧ ∀ i, i < n → upd (tkTo f k) k (f k - 1) i = tkTo f (k + 1) i) := Lib.hid ⟨by simp [dueL, hf1], fun i _ => by
            unfold upd tkTo tk
            by_cases h1 : i < k
            · rw [if_neg (show ¬ i = k by omega), if_pos h1, if_pos (show i < k + 1 by omega)]
            · by_cases h2 : i = k
              · subst h2; rw [if_pos rfl, if_pos (show i < i + 1 by omega), if_neg hf0]
              · rw [if_neg h2, if_neg h1, if_neg (show ¬ i < k + 1 by omega)]⟩
          have hb2 : 2 ≤ f k := by omega
          have hb3 := hbd.2
          clear hh hf0 hf1 hbd
          generalize f k = x at *
          go_wp2_with (first | (at_lookup; refine wpList_lookup_own_ok_int _ rfl _ _ 40 rfl 3 3 .i64 law3 Try.underlying40 Try.underlying3 (zero3 _) m n D rfl HO.out _ _ rfl HK.out ?_; intro c hat hwc; (obtain rfl : x = c := by (rw [HA.out] at hat; injection hat with hat; injection hat)); clear hat hwc) | (at_mapUpdate; refine wpList_mapUpdate_in _ rfl _ _ _ 40 rfl 3 3 law3 Try.underlying40 _ m n D rfl HO.out (by unfold maxLen; omega) _ _ _ rfl rfl HK.out (.lit (.int .i64 (x - 1))) [] (plainElem_int Try.underlying3 (wf_i _ (by omega))) ?_; intro w1 hown1 hturn1; have HO1 := Lib.hid hown1; clear hown1; have HT := Lib.hid hturn1; clear hturn1))
          have hm0 := HM.out.put (HO.out.tidy law3) hlt (v := x - 1) (by omega) (by omega) (law3.key HK.out)
          have hm' : AM m n (upd (tkTo f k) k (x - 1)) w1 := ⟨_, owns_tight HO1.out (by rw [hm0.1]; exact cnt_le _ _), hm0⟩
          have hak1 : AK g m n (tkTo f (k + 1)) w1 := (HAK.out.turned HT.out hm').congr E.out.2
          have hg1 : w.grownBy w1 (some m) := only_trans HGR.out HT.out.grown (fun j hj => by injection hj with hj; exact .inl hj.symm)
          have hw1 := HOW.out.kept HT.out.grown (.inr (own_map_ne HOW.out HAK.out.2.1))
          have HK1 := Lib.hid hak1; clear hak1
          have HG1 := Lib.hid hg1; clear hg1
          have HW1 := Lib.hid hw1; clear hw1
          clear hm' hm0
          go_wp2_with fail
          go_roundw
          case rel => exact ⟨k + 1, by omega, by go_num, by rw [E.out.1]; exact HW1.out, HK1.out, HG1.out⟩
          case measure => simp [intOf]; omega
    · obtain rfl : k = n := by omega
      go_wp2_with fail
      go_ret2
      exact ⟨_, rfl, hown, hak.congr (fun i hi => by unfold tkTo; rw [if_pos hi]), hgr⟩

end Go.Proofs.Ytlhcefpdkoliaaa
