/-
  hauberklaw07.CellRises returns true for every l, and its argument reads as before. No condition.
  The frame (lifted, over, proved) is a print of a program, after the way of the seat's proof-skeleton.
-/
import Derived.Test.YtklpgegooakfjaaWorks
namespace Go.Proofs.Ytklpgegooakfjaa.cellRises
open Go.ChangeShapes Go.WideShapes Go.ChangeAt Go.RowKit Go.Deep
set_option linter.unusedVariables false

/-- The cell in block g stands so that armed and behind say what is armed. -/
def CA (w0 : World) (g : Nat) (st k : Int) (ar bh : Bool) (w : World) : Prop := C w0 g st k w ∧ ((ar = true ∧ (st = 2 ∧ bh = false ∨ st = 3 ∧ bh = true)) ∨ (ar = false ∧ (st = 1 ∨ st = 4)))
theorem CA.v {w0 : World} {g : Nat} {st k : Int} {ar bh : Bool} {w : World} (h : CA w0 g st k ar bh w) : 1 ≤ st ∧ st ≤ 4 := by
  rcases h.2 with ⟨_, ⟨h, _⟩ | ⟨h, _⟩⟩ | ⟨_, h | h⟩ <;> omega
section
variable {w0 w : World} {g : Nat} {st k : Int}
theorem write_e (n r st' k' : Int) (hr : wr st k n = (r, st', k')) (hv : 1 ≤ st ∧ st ≤ 4) (h : C w0 g st k w) :
    Calls Try.prog 10 #[.pointer (some ⟨g, 0, none⟩), .int .i64 n] w fun e w' => e = .returned (.int .i64 r) ∧ C w0 g st' k' w' := write_c st k n r st' k' hr (by omega) h
theorem crash_e (b : Bool) (r st' : Int) (hr : cr st b = (r, st')) (hv : 1 ≤ st ∧ st ≤ 4) (h : C w0 g st k w) :
    Calls Try.prog 12 #[.pointer (some ⟨g, 0, none⟩), .bool b] w fun e w' => e = .returned (.int .i64 r) ∧ C w0 g st' k w' := crash_c st k b r st' hr (by omega) h
theorem start_e (r st' : Int) (hr : sr st = (r, st')) (hv : 1 ≤ st ∧ st ≤ 4) (h : C w0 g st k w) :
    Calls Try.prog 14 #[.pointer (some ⟨g, 0, none⟩)] w fun e w' => e = .returned (.int .i64 r) ∧ C w0 g st' k w' := start_c st k r st' hr (by omega) h
end
theorem wr4 (k n : Int) : wr 4 k n = (80, 4, k) := rfl
theorem wr9 (st k n : Int) (hv : 1 ≤ st ∧ st ≤ 3) (h : n ≤ k ∨ 9007199254740991 < n) : wr st k n = (9, st, k) := by unfold wr; rw [if_neg (by omega), if_neg (by omega), if_pos h]
theorem wr1 (k n : Int) (h : ¬ (n ≤ k ∨ 9007199254740991 < n)) : wr 1 k n = (0, 1, n) := by unfold wr; rw [if_neg (by omega), if_neg (by omega), if_neg h, if_pos rfl]
theorem wr2 (k n : Int) (h : ¬ (n ≤ k ∨ 9007199254740991 < n)) : wr 2 k n = (270, 4, k) := by unfold wr; rw [if_neg (by omega), if_neg (by omega), if_neg h, if_neg (by omega), if_pos rfl]
theorem wr3 (k n : Int) (h : ¬ (n ≤ k ∨ 9007199254740991 < n)) : wr 3 k n = (270, 4, n) := by unfold wr; rw [if_neg (by omega), if_neg (by omega), if_neg h, if_neg (by omega), if_neg (by omega)]
theorem cr0 (st : Int) (b : Bool) (hv : 1 ≤ st ∧ st ≤ 3) : cr st b = (0, if b = true then 3 else 2) := by unfold cr; rw [if_neg (by omega), if_neg (by omega)]
theorem sr0 (st : Int) (hv : 1 ≤ st ∧ st ≤ 3) : sr st = (80, st) := by unfold sr; rw [if_neg (by omega), if_neg (by omega)]

set_option maxRecDepth 100000 in
set_option maxHeartbeats 16000000 in
theorem walk (A : Option Addr) (len cap : Nat) (F0 F1 : Nat → Int) (F2 : Nat → Bool) (w : World) (hl : len ≤ 9223372036854775807)
    (hA : Rd w 3 A len (fun i => [.int .i64 (F0 i), .int .i64 (F1 i), .bool (F2 i)])) (hb : ∀ i, i < len → (-9223372036854775808 ≤ F0 i ∧ F0 i ≤ 9223372036854775807)) :
    Calls Try.prog 4 #[.slice A len cap] w fun e w' => e = .returned (.bool true) ∧ Below w.heap.size w w' := by
  have HA := Lib.hid hA; clear hA
  have HB := Lib.hid hb; clear hb
  go_enter Try.func4, Try.ntmps4
  go_wp2_with fail
  refine (works_any _).mono ?_; rintro e w1 ⟨rfl, hb1⟩
  go_wp2_with fail
  refine (new_c w w1 hb1).mono ?_; rintro e w2 ⟨rfl, hq⟩
  clear hb1
  go_wp2_with fail
  go_loopw [4, 5, 6] (fun a b i wr => ∃ (x : Nat) (st k : Int) (ar bh : Bool), x ≤ len ∧ i = .int .i64 x ∧ a = .bool ar ∧ b = .bool bh ∧ CA w w1.heap.size st k ar bh wr) (fun _ _ i _ => len - (intOf i).toNat)
  case atStart => exact ⟨0, 1, 0, false, false, by omega, rfl, rfl, rfl, hq, .inr ⟨rfl, .inl rfl⟩⟩
  case round =>
    clear hq
    obtain ⟨x, st, k, ar, bh, hk, rfl, rfl, rfl, hq⟩ := hrel
    generalize w1.heap.size = g at hq ⊢
    by_cases hlt : x < len
    · obtain ⟨b0, off, rfl, hbl, hc⟩ := HA.out x hlt
      have HC : Hid (∀ W : World, Below w.heap.size w W → W.cell? ⟨b0, off + x * 3, none⟩ = some (.int .i64 (F0 x)) ∧ W.cell? ⟨b0, off + x * 3 + 1, none⟩ = some (.int .i64 (F1 x)) ∧ W.cell? ⟨b0, off + x * 3 + 2, none⟩ = some (.bool (F2 x))) :=
        Lib.hid (fun W h => ⟨(h.cell (p := ⟨b0, off + x * 3, none⟩) hbl).trans (hc 0 _ rfl), (h.cell (p := ⟨b0, off + x * 3 + 1, none⟩) hbl).trans (hc 1 _ rfl), (h.cell (p := ⟨b0, off + x * 3 + 2, none⟩) hbl).trans (hc 2 _ rfl)⟩)
      clear hc HA
      obtain ⟨u1, u2⟩ := HB.out x hlt
      generalize F0 x = kd at *
      generalize F1 x = n at *
      generalize F2 x = bb at *
      have hv := hq.v
      obtain ⟨hq, hrel⟩ := hq
      obtain ⟨hc0, hc1, hc2⟩ := HC.out _ hq.1
      have m0 := Int.emod_nonneg kd (b := 4) (by omega)
      have m1 := Int.emod_lt_of_pos kd (b := 4) (by omega)
      have HR := Lib.hid hrel; clear hrel
      obtain ⟨dn, hdn⟩ : ∃ r, (st == 4) = r := ⟨_, rfl⟩
      have HDN := Lib.hid hdn; clear hdn
      go_wp2_with fail
      refine (read_c hq).mono ?_; rintro e w' ⟨rfl, rfl⟩
      go_wp2_with fail
      refine (down_c dn HDN.out hq).mono ?_; rintro e w' ⟨rfl, rfl⟩
      go_wp2_with fail
      refine (bring_any _ _ _ u1 u2 (by omega) (by omega)).mono ?_; rintro e w' ⟨rfl, rfl⟩
      generalize kd % 4 = v at *
      clear u1 u2 hc0
      obtain rfl | rfl | rfl | rfl : v = 0 ∨ v = 1 ∨ v = 2 ∨ v = 3 := by omega
      · rcases HR.out with ⟨rfl, ⟨rfl, rfl⟩ | ⟨rfl, rfl⟩⟩ | ⟨rfl, rfl | rfl⟩
        · obtain rfl : false = dn := HDN.out
          by_cases hn : n ≤ k ∨ 9007199254740991 < n
          · have R := Lib.hid (wr9 2 k n (by omega) hn)
            clear hn
            go_wp2_with fail
            refine (write_e n 9 2 k R.out hv hq).mono ?_; rintro e w' ⟨rfl, hq1⟩; clear hq hc1 hc2
            obtain ⟨hc0, hc1, hc2⟩ := HC.out _ hq1.1
            go_wp2_with fail
            refine (read_c hq1).mono ?_; rintro e w' ⟨rfl, rfl⟩
            go_wp2_with fail
            refine (down_c false (by decide) hq1).mono ?_; rintro e w' ⟨rfl, rfl⟩
            go_wp2_with fail
            go_roundw
            case rel => exact ⟨x + 1, 2, k, true, false, by omega, by go_num, rfl, rfl, hq1, .inl ⟨rfl, .inl ⟨rfl, rfl⟩⟩⟩
            case measure => simp [intOf]; omega
          · have R := Lib.hid (wr2 k n hn)
            have hn1 : k < n := by omega
            have hn2 : (n == k) = false := by simp; omega
            have hn3 : decide (n < k) = false := by simp; omega
            clear hn
            go_wp2_with fail
            refine (write_e n 270 4 k R.out hv hq).mono ?_; rintro e w' ⟨rfl, hq1⟩; clear hq hc1 hc2
            obtain ⟨hc0, hc1, hc2⟩ := HC.out _ hq1.1
            go_wp2_with fail
            refine (read_c hq1).mono ?_; rintro e w' ⟨rfl, rfl⟩
            go_wp2_with fail
            refine (down_c true (by decide) hq1).mono ?_; rintro e w' ⟨rfl, rfl⟩
            go_wp2_with fail
            go_roundw
            case rel => exact ⟨x + 1, 4, k, false, false, by omega, by go_num, rfl, rfl, hq1, .inr ⟨rfl, .inr rfl⟩⟩
            case measure => simp [intOf]; omega
        · obtain rfl : false = dn := HDN.out
          by_cases hn : n ≤ k ∨ 9007199254740991 < n
          · have R := Lib.hid (wr9 3 k n (by omega) hn)
            clear hn
            go_wp2_with fail
            refine (write_e n 9 3 k R.out hv hq).mono ?_; rintro e w' ⟨rfl, hq1⟩; clear hq hc1 hc2
            obtain ⟨hc0, hc1, hc2⟩ := HC.out _ hq1.1
            go_wp2_with fail
            refine (read_c hq1).mono ?_; rintro e w' ⟨rfl, rfl⟩
            go_wp2_with fail
            refine (down_c false (by decide) hq1).mono ?_; rintro e w' ⟨rfl, rfl⟩
            go_wp2_with fail
            go_roundw
            case rel => exact ⟨x + 1, 3, k, true, true, by omega, by go_num, rfl, rfl, hq1, .inl ⟨rfl, .inr ⟨rfl, rfl⟩⟩⟩
            case measure => simp [intOf]; omega
          · have R := Lib.hid (wr3 k n hn)
            have hn1 : k < n := by omega
            have hn2 : (n == k) = false := by simp; omega
            have hn3 : decide (n < k) = false := by simp; omega
            clear hn
            go_wp2_with fail
            refine (write_e n 270 4 n R.out hv hq).mono ?_; rintro e w' ⟨rfl, hq1⟩; clear hq hc1 hc2
            obtain ⟨hc0, hc1, hc2⟩ := HC.out _ hq1.1
            go_wp2_with fail
            refine (read_c hq1).mono ?_; rintro e w' ⟨rfl, rfl⟩
            go_wp2_with fail
            refine (down_c true (by decide) hq1).mono ?_; rintro e w' ⟨rfl, rfl⟩
            go_wp2_with fail
            go_roundw
            case rel => exact ⟨x + 1, 4, n, false, true, by omega, by go_num, rfl, rfl, hq1, .inr ⟨rfl, .inr rfl⟩⟩
            case measure => simp [intOf]; omega
        · obtain rfl : false = dn := HDN.out
          by_cases hn : n ≤ k ∨ 9007199254740991 < n
          · have R := Lib.hid (wr9 1 k n (by omega) hn)
            clear hn
            go_wp2_with fail
            refine (write_e n 9 1 k R.out hv hq).mono ?_; rintro e w' ⟨rfl, hq1⟩; clear hq hc1 hc2
            obtain ⟨hc0, hc1, hc2⟩ := HC.out _ hq1.1
            go_wp2_with fail
            refine (read_c hq1).mono ?_; rintro e w' ⟨rfl, rfl⟩
            go_wp2_with fail
            refine (down_c false (by decide) hq1).mono ?_; rintro e w' ⟨rfl, rfl⟩
            go_wp2_with fail
            go_roundw
            case rel => exact ⟨x + 1, 1, k, false, bh, by omega, by go_num, rfl, rfl, hq1, .inr ⟨rfl, .inl rfl⟩⟩
            case measure => simp [intOf]; omega
          · have R := Lib.hid (wr1 k n hn)
            have hn1 : k < n := by omega
            have hn2 : (n == k) = false := by simp; omega
            have hn3 : decide (n < k) = false := by simp; omega
            clear hn
            go_wp2_with fail
            refine (write_e n 0 1 n R.out hv hq).mono ?_; rintro e w' ⟨rfl, hq1⟩; clear hq hc1 hc2
            obtain ⟨hc0, hc1, hc2⟩ := HC.out _ hq1.1
            go_wp2_with fail
            refine (read_c hq1).mono ?_; rintro e w' ⟨rfl, rfl⟩
            go_wp2_with fail
            refine (down_c false (by decide) hq1).mono ?_; rintro e w' ⟨rfl, rfl⟩
            go_wp2_with fail
            go_roundw
            case rel => exact ⟨x + 1, 1, n, false, bh, by omega, by go_num, rfl, rfl, hq1, .inr ⟨rfl, .inl rfl⟩⟩
            case measure => simp [intOf]; omega
        · obtain rfl : true = dn := HDN.out
          have R := Lib.hid (wr4 k n)
          go_wp2_with fail
          refine (write_e n 80 4 k R.out hv hq).mono ?_; rintro e w' ⟨rfl, hq1⟩; clear hq hc1 hc2
          obtain ⟨hc0, hc1, hc2⟩ := HC.out _ hq1.1
          go_wp2_with fail
          refine (read_c hq1).mono ?_; rintro e w' ⟨rfl, rfl⟩
          go_wp2_with fail
          go_roundw
          case rel => exact ⟨x + 1, 4, k, false, bh, by omega, by go_num, rfl, rfl, hq1, .inr ⟨rfl, .inr rfl⟩⟩
          case measure => simp [intOf]; omega
      · rcases HR.out with ⟨rfl, ⟨rfl, rfl⟩ | ⟨rfl, rfl⟩⟩ | ⟨rfl, rfl | rfl⟩
        · obtain rfl : false = dn := HDN.out
          by_cases hn : n ≤ k ∨ 9007199254740991 < n
          · have R := Lib.hid (wr9 2 k n (by omega) hn)
            clear hn
            go_wp2_with fail
            refine (write_e n 9 2 k R.out hv hq).mono ?_; rintro e w' ⟨rfl, hq1⟩; clear hq hc1 hc2
            obtain ⟨hc0, hc1, hc2⟩ := HC.out _ hq1.1
            go_wp2_with fail
            refine (read_c hq1).mono ?_; rintro e w' ⟨rfl, rfl⟩
            go_wp2_with fail
            refine (down_c false (by decide) hq1).mono ?_; rintro e w' ⟨rfl, rfl⟩
            go_wp2_with fail
            go_roundw
            case rel => exact ⟨x + 1, 2, k, true, false, by omega, by go_num, rfl, rfl, hq1, .inl ⟨rfl, .inl ⟨rfl, rfl⟩⟩⟩
            case measure => simp [intOf]; omega
          · have R := Lib.hid (wr2 k n hn)
            have hn1 : k < n := by omega
            have hn2 : (n == k) = false := by simp; omega
            have hn3 : decide (n < k) = false := by simp; omega
            clear hn
            go_wp2_with fail
            refine (write_e n 270 4 k R.out hv hq).mono ?_; rintro e w' ⟨rfl, hq1⟩; clear hq hc1 hc2
            obtain ⟨hc0, hc1, hc2⟩ := HC.out _ hq1.1
            go_wp2_with fail
            refine (read_c hq1).mono ?_; rintro e w' ⟨rfl, rfl⟩
            go_wp2_with fail
            refine (down_c true (by decide) hq1).mono ?_; rintro e w' ⟨rfl, rfl⟩
            go_wp2_with fail
            go_roundw
            case rel => exact ⟨x + 1, 4, k, false, false, by omega, by go_num, rfl, rfl, hq1, .inr ⟨rfl, .inr rfl⟩⟩
            case measure => simp [intOf]; omega
        · obtain rfl : false = dn := HDN.out
          by_cases hn : n ≤ k ∨ 9007199254740991 < n
          · have R := Lib.hid (wr9 3 k n (by omega) hn)
            clear hn
            go_wp2_with fail
            refine (write_e n 9 3 k R.out hv hq).mono ?_; rintro e w' ⟨rfl, hq1⟩; clear hq hc1 hc2
            obtain ⟨hc0, hc1, hc2⟩ := HC.out _ hq1.1
            go_wp2_with fail
            refine (read_c hq1).mono ?_; rintro e w' ⟨rfl, rfl⟩
            go_wp2_with fail
            refine (down_c false (by decide) hq1).mono ?_; rintro e w' ⟨rfl, rfl⟩
            go_wp2_with fail
            go_roundw
            case rel => exact ⟨x + 1, 3, k, true, true, by omega, by go_num, rfl, rfl, hq1, .inl ⟨rfl, .inr ⟨rfl, rfl⟩⟩⟩
            case measure => simp [intOf]; omega
          · have R := Lib.hid (wr3 k n hn)
            have hn1 : k < n := by omega
            have hn2 : (n == k) = false := by simp; omega
            have hn3 : decide (n < k) = false := by simp; omega
            clear hn
            go_wp2_with fail
            refine (write_e n 270 4 n R.out hv hq).mono ?_; rintro e w' ⟨rfl, hq1⟩; clear hq hc1 hc2
            obtain ⟨hc0, hc1, hc2⟩ := HC.out _ hq1.1
            go_wp2_with fail
            refine (read_c hq1).mono ?_; rintro e w' ⟨rfl, rfl⟩
            go_wp2_with fail
            refine (down_c true (by decide) hq1).mono ?_; rintro e w' ⟨rfl, rfl⟩
            go_wp2_with fail
            go_roundw
            case rel => exact ⟨x + 1, 4, n, false, true, by omega, by go_num, rfl, rfl, hq1, .inr ⟨rfl, .inr rfl⟩⟩
            case measure => simp [intOf]; omega
        · obtain rfl : false = dn := HDN.out
          by_cases hn : n ≤ k ∨ 9007199254740991 < n
          · have R := Lib.hid (wr9 1 k n (by omega) hn)
            clear hn
            go_wp2_with fail
            refine (write_e n 9 1 k R.out hv hq).mono ?_; rintro e w' ⟨rfl, hq1⟩; clear hq hc1 hc2
            obtain ⟨hc0, hc1, hc2⟩ := HC.out _ hq1.1
            go_wp2_with fail
            refine (read_c hq1).mono ?_; rintro e w' ⟨rfl, rfl⟩
            go_wp2_with fail
            refine (down_c false (by decide) hq1).mono ?_; rintro e w' ⟨rfl, rfl⟩
            go_wp2_with fail
            go_roundw
            case rel => exact ⟨x + 1, 1, k, false, bh, by omega, by go_num, rfl, rfl, hq1, .inr ⟨rfl, .inl rfl⟩⟩
            case measure => simp [intOf]; omega
          · have R := Lib.hid (wr1 k n hn)
            have hn1 : k < n := by omega
            have hn2 : (n == k) = false := by simp; omega
            have hn3 : decide (n < k) = false := by simp; omega
            clear hn
            go_wp2_with fail
            refine (write_e n 0 1 n R.out hv hq).mono ?_; rintro e w' ⟨rfl, hq1⟩; clear hq hc1 hc2
            obtain ⟨hc0, hc1, hc2⟩ := HC.out _ hq1.1
            go_wp2_with fail
            refine (read_c hq1).mono ?_; rintro e w' ⟨rfl, rfl⟩
            go_wp2_with fail
            refine (down_c false (by decide) hq1).mono ?_; rintro e w' ⟨rfl, rfl⟩
            go_wp2_with fail
            go_roundw
            case rel => exact ⟨x + 1, 1, n, false, bh, by omega, by go_num, rfl, rfl, hq1, .inr ⟨rfl, .inl rfl⟩⟩
            case measure => simp [intOf]; omega
        · obtain rfl : true = dn := HDN.out
          have R := Lib.hid (wr4 k n)
          go_wp2_with fail
          refine (write_e n 80 4 k R.out hv hq).mono ?_; rintro e w' ⟨rfl, hq1⟩; clear hq hc1 hc2
          obtain ⟨hc0, hc1, hc2⟩ := HC.out _ hq1.1
          go_wp2_with fail
          refine (read_c hq1).mono ?_; rintro e w' ⟨rfl, rfl⟩
          go_wp2_with fail
          go_roundw
          case rel => exact ⟨x + 1, 4, k, false, bh, by omega, by go_num, rfl, rfl, hq1, .inr ⟨rfl, .inr rfl⟩⟩
          case measure => simp [intOf]; omega
      · by_cases h4 : st = 4
        · subst h4
          obtain rfl : true = dn := HDN.out
          obtain rfl : ar = false := by rcases HR.out with ⟨_, ⟨h, _⟩ | ⟨h, _⟩⟩ | ⟨h, _⟩ <;> first | exact h | omega
          go_wp2_with fail
          refine (crash_e bb 80 4 rfl hv hq).mono ?_; rintro e w' ⟨rfl, hq1⟩; clear hq hc1 hc2
          go_wp2_with fail
          refine (read_c hq1).mono ?_; rintro e w' ⟨rfl, rfl⟩
          go_wp2_with fail
          refine (down_c true (by decide) hq1).mono ?_; rintro e w' ⟨rfl, rfl⟩
          go_wp2_with fail
          go_roundw
          case rel => exact ⟨x + 1, 4, k, false, bh, by omega, by go_num, rfl, rfl, hq1, .inr ⟨rfl, .inr rfl⟩⟩
          case measure => simp [intOf]; omega
        · obtain rfl : false = dn := by rw [← HDN.out]; simp; exact h4
          have R := Lib.hid (cr0 st bb (by omega))
          clear h4
          go_wp2_with fail
          refine (crash_e bb 0 _ R.out hv hq).mono ?_; rintro e w' ⟨rfl, hq1⟩; clear hq hc1 hc2
          obtain ⟨hc0, hc1, hc2⟩ := HC.out _ hq1.1
          have Q1 := Lib.hid hq1
          have hdz : ((if bb = true then (3 : Int) else 2) == 4) = false := by cases bb <;> rfl
          have HDZ := Lib.hid hdz; clear hdz
          generalize hs2 : (if bb = true then (3 : Int) else 2) = s2 at *
          have HS2 := Lib.hid hs2; clear hs2
          clear Q1
          go_wp2_with fail
          refine (read_c hq1).mono ?_; rintro e w' ⟨rfl, rfl⟩
          go_wp2_with fail
          refine (down_c false HDZ.out hq1).mono ?_; rintro e w' ⟨rfl, rfl⟩
          go_wp2_with fail
          go_roundw
          case rel => exact ⟨x + 1, s2, k, true, bb, by omega, by go_num, rfl, rfl, hq1, .inl ⟨rfl, by rw [← HS2.out]; cases bb <;> simp⟩⟩
          case measure => simp [intOf]; omega
      · by_cases h4 : st = 4
        · subst h4
          obtain rfl : true = dn := HDN.out
          go_wp2_with fail
          refine (start_e 0 1 rfl hv hq).mono ?_; rintro e w' ⟨rfl, hq1⟩; clear hq hc1 hc2
          go_wp2_with fail
          refine (read_c hq1).mono ?_; rintro e w' ⟨rfl, rfl⟩
          go_wp2_with fail
          refine (down_c false (by decide) hq1).mono ?_; rintro e w' ⟨rfl, rfl⟩
          go_wp2_with fail
          go_roundw
          case rel => exact ⟨x + 1, 1, k, false, bh, by omega, by go_num, rfl, rfl, hq1, .inr ⟨rfl, .inl rfl⟩⟩
          case measure => simp [intOf]; omega
        · obtain rfl : false = dn := by rw [← HDN.out]; simp; exact h4
          have R := Lib.hid (sr0 st (by omega))
          clear h4
          go_wp2_with fail
          refine (start_e 80 st R.out hv hq).mono ?_; rintro e w' ⟨rfl, hq1⟩; clear hq hc1 hc2
          go_wp2_with fail
          refine (read_c hq1).mono ?_; rintro e w' ⟨rfl, rfl⟩
          go_wp2_with fail
          refine (down_c false HDN.out hq1).mono ?_; rintro e w' ⟨rfl, rfl⟩
          go_wp2_with fail
          go_roundw
          case rel => exact ⟨x + 1, st, k, ar, bh, by omega, by go_num, rfl, rfl, hq1, HR.out⟩
          case measure => simp [intOf]; omega
    · have hb := hq.1.1
      clear hq
      go_wp2_with fail
      go_ret
      exact ⟨rfl, hb⟩

set_option maxRecDepth 100000 in
theorem lifted (os : Os) (started : os.Started) (H : Type) (enc : TypeId × Value → H) :
    ReturnsInHanded {} Try.checked os 4 .any (Rows.cellRisesSpec.pre6 enc Try.prog Try.f4 Rows.cellRisesRow.domain false) (Rows.cellRisesSpec.post enc Try.prog Try.f4 false true false false) := by
  refine returnsInHanded_of_change (C := Try.checked) own started (by kernel_rfl) Try.func4
    (ChangeSpec.witness6 (enc := enc) (C := Try.checked) false ⟨#[], #[.slice none 0 0], []⟩ 8 (by kernel_rfl) (by kernel_rfl) (by kernel_rfl) (by kernel_rfl)) ?_
  intro W base args ds gs before hval0 hW hcnd _
  have hval : ∀ (j : Nat) t v, Try.f4.params[j]? = some t → args[j]? = some v → Value.okWide Try.prog W .any base t v := hval0
  have hW' := hW
  obtain ⟨p, q, hA0, hV, rfl, hfz, hnd⟩ := hW
  have hA : DataW.TrodAll enc Try.prog W 0 (fun _ => true) true Try.f4.params.toList args.toList ds p := hA0
  rw [Try.params4] at hA hval
  obtain ⟨v0, vs0, d0, ds0, p0, q0, hargs, rfl, rfl, h0, r0⟩ := trodAll_cons hA
  obtain ⟨rfl, rfl, rfl⟩ := trodAll_nil r0
  obtain rfl : args = #[v0] := by cases args; simp_all
  obtain ⟨rfl, rfl⟩ := trodVars_none hV
  have k0 := h0
  have lt0 : ∀ x ∈ p0, x.block < W.heap.size := by obtain ⟨m, hm⟩ := k0; exact DataW.trod_lt m _ _ _ hm
  obtain ⟨s0, len0, cap0, rfl⟩ := okWide_slice Try.underlying22 (hval 0 22 v0 rfl rfl)
  obtain ⟨F0, F1, F2, hrd, hml, hwf⟩ := open_iib Try.underlying22 Try.underlying28 (by kernel_rfl) Try.underlying3 Try.underlying3 Try.underlying4 (by kernel_rfl) h0
  clear hA0 hval0
  refine (walk s0 len0 cap0 F0 F1 F2 W (by unfold maxLen at hml; omega) hrd (fun i hi => wf_bd (hwf i hi).1)).mono fun e W' ⟨he, bel⟩ => ?_
  subst he
  exact ⟨_, rfl, _, _, _, [], _, [], hW', trodAll_mk1 (shut_bool Try.underlying4 _), (trodAll_cons_mk (Below.trod laidOut (by kernel_rfl) (of_decide_eq_true (by kernel_rfl)) k0 bel lt0) trodAll_mk0), rfl, bel.frame _, fun h => by cases h⟩

theorem over : Rows.cellRisesRow.holds Try.pinned (OpenSpec.ofChange Rows.cellRisesSpec) :=
  OpenClaim.holds_of_wide 4 Try.f4 rfl rfl rfl rfl rfl rfl rfl ⟨rfl, rfl, rfl, rfl, rfl⟩ rfl rfl rfl rfl rfl (by kernel_rfl) Try.func4 (by kernel_rfl)
    (of_decide_eq_true (by kernel_rfl)) (by unfold Func.isWrapper; first | (rw [if_pos (by decide +kernel)]; kernel_rfl) | (rw [if_neg (by decide +kernel)]; exact ⟨rfl, rfl⟩))
    (fun os started H enc _ => lifted os started H enc)

theorem proved : Rows.CellRisesSaid := over
#print axioms proved
end Go.Proofs.Ytklpgegooakfjaa.cellRises
