/- The walks of the reference's roll (hauberkref24), each function once. -/
import Derived.Test.YtogcjflppjebfaaList
import Derived.Laws.AppendOwnNone
namespace Go.Proofs.Ytogcjflppjebfaa
open Go.ChangeShapes Go.WideShapes Go.ChangeAt Go.RowKit Go.Deep

/-- The form of a slice of integers that the call owns. -/
theorem own_form {w : World} {base : Nat} {e : TypeId} {v : Value} {n : Nat} {ys : List Value} (h : w.ownsRow base e 1 v n ys) :
    ∃ (A : Option Addr) (c : Nat), v = .slice A n c ∧ n ≤ c ∧ c ≤ maxLen ∧ ∀ i, i < n → ∃ g, A = some ⟨g, 0, none⟩ ∧ base ≤ g ∧ g < w.heap.size ∧ w.cell? ⟨g, i, none⟩ = ys[i]? := by
  rcases h.2 with ⟨rfl, rfl⟩ | ⟨g, c, cur, rfl, hb, hh, hn, hc, hs, ht⟩
  · exact ⟨none, 0, rfl, by omega, by simp [maxLen], fun i hi => absurd hi (by omega)⟩
  · exact ⟨_, c, rfl, hn, hc, fun i hi => ⟨g, rfl, hb, (h.lt g rfl).2, h.cellAt i (by omega)⟩⟩

/-- The reference's roll lies in block g; its list is xs. -/
def RefL (base g : Nat) (xs : List Int) (w : World) : Prop := base ≤ g ∧ ∃ v, Blk w g 44 #[v] ∧ w.ownsRow base 3 1 v xs.length (xs.map (Value.int .i64))

set_option maxHeartbeats 400000 in
theorem place_any (base g : Nat) (xs : List Int) (j : Int) (w : World) (h : RefL base g xs w) (hl : xs.length ≤ 8) :
    Calls Try.prog 20 #[.pointer (some ⟨g, 0, none⟩), .int .i64 j] w fun e w' => ∃ p : Int, e = .returned (.int .i64 p) ∧ w = w' ∧ (p = -1 ∧ ¬ j ∈ xs ∨ ∃ k : Nat, p = k ∧ xs[k]? = some j) := by
  obtain ⟨_, v, hb, ho⟩ := h
  obtain ⟨A, c, rfl, hnc, hcm, hcell⟩ := own_form ho
  have c0 : w.cell? ⟨g, 0, none⟩ = some (.slice A xs.length c) := hb.cell 0
  clear hb ho
  have HC := Lib.hid hcell; clear hcell
  unfold maxLen at hcm
  generalize hn : xs.length = n at *
  have HN := Lib.hid hn; clear hn
  go_enter Try.func20, Try.ntmps20
  go_wp2
  go_loop [5] (fun i => ∃ k : Nat, k ≤ n ∧ i = .int .i64 k ∧ ∀ m, m < k → ¬ xs[m]? = some j) (fun i => n - (intOf i).toNat)
  case atStart => exact ⟨0, by omega, rfl, fun m hm => absurd hm (by omega)⟩
  case round =>
    obtain ⟨k, hk, rfl, hq⟩ := hrel
    have HQ := Lib.hid hq; clear hq
    by_cases hlt : k < n
    · obtain ⟨g', rfl, _, _, hc⟩ := HC.out k hlt
      obtain ⟨x, hx⟩ : ∃ x, xs[k]? = some x := ⟨_, List.getElem?_eq_getElem (by rw [HN.out]; exact hlt)⟩
      rw [List.getElem?_map, hx] at hc
      have HX := Lib.hid hx; clear hx
      have c1 : w.cell? ⟨g', k, none⟩ = some (.int .i64 x) := hc
      clear hc
      by_cases he : x = j
      · have b1 : (x == j) = true := by simp [he]
        have HE := Lib.hid he; clear he
        go_wp2
        go_ret
        exact ⟨_, rfl, rfl, .inr ⟨k, rfl, by rw [HX.out, HE.out]⟩⟩
      · have b1 : (x == j) = false := by simp [he]
        have HE := Lib.hid he; clear he
        go_wp2
        go_round
        case rel =>
          refine ⟨k + 1, by omega, by go_num, fun m hm => ?_⟩
          by_cases hmk : m = k
          · subst hmk; rw [HX.out]; intro h; injection h with h; exact HE.out h
          · exact HQ.out m (by omega)
        case measure => simp [intOf]; omega
    · go_wp2
      go_ret
      refine ⟨_, rfl, rfl, .inl ⟨rfl, fun hm => ?_⟩⟩
      obtain ⟨m, hml, he⟩ := List.getElem_of_mem hm
      exact HQ.out m (by have := HN.out; omega) (by rw [List.getElem?_eq_getElem hml, he])

theorem A_info3 : (Try.prog.info? 3).map (fun i => (i.zero, i.size, i.bytes)) = some (some (.int .i64 0), 1, 8) := by kernel_rfl

theorem ref_new (w : World) : Calls Try.prog 8 #[] w fun e w' => e = .returned (.pointer (some ⟨w.heap.size, 0, none⟩)) ∧ w' = w.alloc (.cells #[.slice none 0 0] 44) := by
  go_enter Try.func8, Try.ntmps8
  go_wp2
  go_ret
  exact ⟨rfl, rfl⟩

set_option maxHeartbeats 400000 in
theorem ref_groups (base g : Nat) (f : Nat → Bool) (xs : List Int) (w : World) (h : RefL base g xs w) (hs : Same f xs) :
    Calls Try.prog 14 #[.pointer (some ⟨g, 0, none⟩)] w fun e w' => e = .returned (.int .i64 (gsum f 8)) ∧ w = w' := by
  have hl := hs.len
  have hsum := hs.sum
  have hlt8 := gsum_lt f 8
  have hr := hs.1
  clear hs
  obtain ⟨_, v, hb, ho⟩ := h
  obtain ⟨A, c, rfl, hnc, hcm, hcell⟩ := own_form ho
  have c0 : w.cell? ⟨g, 0, none⟩ = some (.slice A xs.length c) := hb.cell 0
  clear hb ho
  have HC := Lib.hid hcell; clear hcell
  have HR := Lib.hid hr; clear hr
  have HS := Lib.hid hsum; clear hsum
  unfold maxLen at hcm
  generalize hn : xs.length = n at *
  have HN := Lib.hid hn; clear hn
  go_enter Try.func14, Try.ntmps14
  go_wp2
  go_loop [3, 4] (fun y i => ∃ k : Nat, k ≤ n ∧ i = .int .i64 k ∧ y = .int .i64 (lsum (fun k => 2 ^ k) (xs.take k))) (fun _ i => n - (intOf i).toNat)
  case atStart => exact ⟨0, by omega, rfl, rfl⟩
  case round =>
    obtain ⟨k, hk, rfl, rfl⟩ := hrel
    by_cases hlt : k < n
    · obtain ⟨g', rfl, _, _, hc⟩ := HC.out k hlt
      have hkl : k < xs.length := by rw [HN.out]; exact hlt
      obtain ⟨x, hx⟩ : ∃ x, xs[k]? = some x := ⟨_, List.getElem?_eq_getElem hkl⟩
      have hxr := HR.out x (List.mem_of_getElem? hx)
      obtain ⟨s1, s2⟩ := lsum_take_le (fun k => 2 ^ k) xs k x hx
      rw [HS.out] at s1
      obtain ⟨m, rfl⟩ := Int.eq_ofNat_of_zero_le hxr.1
      simp only [Int.toNat_natCast] at s1 s2
      have hm8 : m < 8 := by omega
      rw [List.getElem?_map, hx] at hc
      have c1 : w.cell? ⟨g', k, none⟩ = some (.int .i64 (m : Int)) := hc
      clear hc hx hxr
      have HS2 := Lib.hid s2; clear s2
      generalize lsum (fun k => 2 ^ k) (List.take k xs) = S at *
      have s3 : wrap64 (S + wrap64 (2 ^ m)) = ((S + 2 ^ m : Nat) : Int) := by
        have h2 : ((2 : Int) ^ m) = ((2 ^ m : Nat) : Int) := by simp
        rw [h2]
        generalize 2 ^ m = p at *
        rw [IntWalk.wrap64_in (p : Int) ⟨by omega, by omega⟩, IntWalk.wrap64_in _ ⟨by omega, by omega⟩]
        omega
      have S3 := Lib.hid s3; clear s3 s1
      go_wp2
      go_round
      case rel => exact ⟨k + 1, by omega, by go_num, by rw [S3.out, HS2.out]⟩
      case measure => simp [intOf]; omega
    · go_wp2
      go_ret
      exact ⟨r_int (by rw [List.take_of_length_le (by have := HN.out; omega), HS.out]), rfl⟩

theorem ref_wants (base g : Nat) (f : Nat → Bool) (xs : List Int) (m : Int) (w : World) (h : RefL base g xs w) (hs : Same f xs) :
    Calls Try.prog 16 #[.pointer (some ⟨g, 0, none⟩), .int .i64 m] w fun e w' => e = .returned (.bool (wantsB (gsum f 8) m)) ∧ w = w' := by
  have H := Lib.hid h; clear h
  have HS := Lib.hid hs; clear hs
  go_enter Try.func16, Try.ntmps16
  go_wp2_with fail
  refine (ref_groups base g f xs _ H.out HS.out).mono ?_; rintro e w' ⟨rfl, rfl⟩
  go_wp2_with fail
  go_ret
  exact ⟨rfl, rfl⟩
end Go.Proofs.Ytogcjflppjebfaa
