/-
  hauberklaw24.RollsCounts returns true for every l, and its argument reads as before. No condition.
  The frame (lifted, over, proved) is a print of a program, after the way of the seat's proof-skeleton.
-/
import Derived.Test.YtogcjflppjebfaaWorks
namespace Go.Proofs.Ytogcjflppjebfaa.rollsCounts
open Go.ChangeShapes Go.WideShapes Go.ChangeAt Go.RowKit Go.Deep
set_option linter.unusedVariables false

/-- A group's count: 1 if it is in, else 0. -/
def iv (f : Nat → Bool) (k : Nat) : Int := if f k = true then 1 else 0
def inCells (f : Nat → Bool) : Array Value := #[.int .i64 (iv f 0), .int .i64 (iv f 1), .int .i64 (iv f 2), .int .i64 (iv f 3), .int .i64 (iv f 4), .int .i64 (iv f 5), .int .i64 (iv f 6), .int .i64 (iv f 7)]
theorem inCells_at (f : Nat → Bool) (k : Nat) (h : k < 8) : (inCells f)[k]? = some (.int .i64 (iv f k)) := by
  match k, h with
  | 0, _ => rfl
  | 1, _ => rfl
  | 2, _ => rfl
  | 3, _ => rfl
  | 4, _ => rfl
  | 5, _ => rfl
  | 6, _ => rfl
  | 7, _ => rfl
theorem inCells_set (f : Nat → Bool) (k : Nat) (v : Bool) (h : k < 8) : (inCells f).setIfInBounds k (.int .i64 (if v = true then 1 else 0)) = inCells (upd f k v) := by
  match k, h with
  | 0, _ => rfl
  | 1, _ => rfl
  | 2, _ => rfl
  | 3, _ => rfl
  | 4, _ => rfl
  | 5, _ => rfl
  | 6, _ => rfl
  | 7, _ => rfl

theorem pow_wrap (m : Nat) (h : m ≤ 8) : wrap64 (2 ^ m) = ((2 ^ m : Nat) : Int) := by
  have hp := pow_le m h
  have h2 : ((2 : Int) ^ m) = ((2 ^ m : Nat) : Int) := by simp
  rw [h2]
  generalize 2 ^ m = p at *
  exact IntWalk.wrap64_in _ ⟨by omega, by omega⟩
theorem sum_wrap0 (f : Nat → Bool) (m : Nat) (h : m ≤ 8) : wrap64 (gsum f m : Int) = (gsum f m : Int) := by
  have hp := pow_le m h
  have hg := gsum_lt f m
  generalize 2 ^ m = p at *
  exact IntWalk.wrap64_in _ ⟨by omega, by omega⟩
theorem sum_wrap (f : Nat → Bool) (m : Nat) (h : m ≤ 8) : wrap64 ((gsum f m : Int) + wrap64 (2 ^ m)) = ((gsum f m + 2 ^ m : Nat) : Int) := by
  have hp := pow_le m h
  have hg := gsum_lt f m
  rw [pow_wrap m h]
  generalize 2 ^ m = p at *
  rw [IntWalk.wrap64_in _ ⟨by omega, by omega⟩]
  omega

/-- The roll lies in block g with the groups f, the counts in block q as of the groups h; what lay below ahead of them is as it was. -/
def RF (w0 : World) (g q : Nat) (f h : Nat → Bool) (w : World) : Prop := Below w0.heap.size w0 w ∧ w0.heap.size ≤ g ∧ w0.heap.size ≤ q ∧ Blk w g 42 (rollCells true f) ∧ Blk w q 35 (inCells h)
theorem RF.drewN {w0 : World} {g q : Nat} {f h : Nat → Bool} {w : World} (r : RF w0 g q f h w) (n : Nat) : RF w0 g q f h (w.drewN n) := ⟨below_draws r.1 n, r.2.1, r.2.2.1, r.2.2.2.1, r.2.2.2.2⟩
theorem RF.at_ {w0 : World} {g q : Nat} {f h : Nat → Bool} {w : World} (r : RF w0 g q f h w) {k : Nat} (hk : k < 8) : w.cell? ⟨q, k, none⟩ = some (.int .i64 (iv h k)) := (r.2.2.2.2.cell k).trans (inCells_at h k hk)
theorem RF.fr {w0 : World} {g q : Nat} {f h : Nat → Bool} {w : World} (r : RF w0 g q f h w) (k : Nat) : w.frozen? ⟨q, k, none⟩ = false := r.2.2.2.2.frozen k
theorem RF.store {w0 : World} {g q : Nat} {f h : Nat → Bool} {w : World} (r : RF w0 g q f h w) {k : Nat} (hk : k < 8) (v : Bool) : RF w0 g q f (upd h k v) (w.setCell ⟨q, k, none⟩ (.int .i64 (if v = true then 1 else 0))) :=
  ⟨r.1.setCell r.2.2.1 _, r.2.1, r.2.2.1, r.2.2.2.1.far (r.2.2.2.1.ne_ r.2.2.2.2 (by decide)) _, by rw [← inCells_set _ _ _ hk]; exact r.2.2.2.2.set_ _ _⟩
theorem enter_f {w0 : World} {g q : Nat} {f h : Nat → Bool} {w : World} (j s : Int) (f' : Nat → Bool) (h1 : turnR f j true = s) (h2 : turnS f j true = f') (r : RF w0 g q f h w) :
    Calls Try.prog 9 #[.pointer (some ⟨g, 0, none⟩), .int .i64 j] w fun e w' => e = .returned (.int .i64 s) ∧ RF w0 g q f' h w' :=
  (enter_any g f j w r.2.2.2.1).mono fun e w' ⟨he, hb, ho, _⟩ => ⟨by rw [he, h1], below_only r.1 ho r.2.1 (Nat.le_refl _), r.2.1, r.2.2.1, by rw [← h2]; exact hb, r.2.2.2.2.grown ho (fun e => (r.2.2.2.1.ne_ r.2.2.2.2 (by decide)) (by injection e with e; exact e.symm))⟩
theorem leave_f {w0 : World} {g q : Nat} {f h : Nat → Bool} {w : World} (j s : Int) (f' : Nat → Bool) (h1 : turnR f j false = s) (h2 : turnS f j false = f') (r : RF w0 g q f h w) :
    Calls Try.prog 10 #[.pointer (some ⟨g, 0, none⟩), .int .i64 j] w fun e w' => e = .returned (.int .i64 s) ∧ RF w0 g q f' h w' :=
  (leave_any g f j w r.2.2.2.1).mono fun e w' ⟨he, hb, ho, _⟩ => ⟨by rw [he, h1], below_only r.1 ho r.2.1 (Nat.le_refl _), r.2.1, r.2.2.1, by rw [← h2]; exact hb, r.2.2.2.2.grown ho (fun e => (r.2.2.2.1.ne_ r.2.2.2.2 (by decide)) (by injection e with e; exact e.symm))⟩
theorem groups_f {w0 : World} {g q : Nat} {f h : Nat → Bool} {w : World} (r : RF w0 g q f h w) :
    Calls Try.prog 13 #[.pointer (some ⟨g, 0, none⟩)] w fun e w' => e = .returned (.int .i64 (gsum f 8)) ∧ w = w' := groups_any g true f w r.2.2.2.1
/-- Out of range; in range and refused; in range and done. -/
theorem turn_out (f : Nat → Bool) (j : Int) (v : Bool) (h : j < 0 ∨ 8 ≤ j) : turnR f j v = 2 ∧ turnS f j v = f := by
  have e : turnR f j v = 2 := by rw [turnR, if_pos h]
  exact ⟨e, by rw [turnS, e]; rfl⟩
theorem turn_same (f : Nat → Bool) (k : Nat) (v : Bool) (hk : k < 8) (h : f k = v) : turnR f k v = 80 ∧ turnS f k v = f := by
  have e : turnR f k v = 80 := by rw [turnR, if_neg (by omega), Int.toNat_natCast, if_pos h]
  exact ⟨e, by rw [turnS, e]; rfl⟩
theorem turn_done (f : Nat → Bool) (k : Nat) (v : Bool) (hk : k < 8) (h : ¬ f k = v) : turnR f k v = 0 ∧ turnS f k v = upd f k v := by
  have e : turnR f k v = 0 := by rw [turnR, if_neg (by omega), Int.toNat_natCast, if_neg h]
  exact ⟨e, by rw [turnS, e, if_pos rfl, Int.toNat_natCast]⟩

set_option maxRecDepth 100000 in
set_option maxHeartbeats 8000000 in
theorem walk (A : Option Addr) (len cap : Nat) (F0 : Nat → Int) (F1 : Nat → Bool) (w : World) (hl : len ≤ 9223372036854775807)
    (hA : Rd w 2 A len (fun i => [.int .i64 (F0 i), .bool (F1 i)])) (hb : ∀ i, i < len → (-9223372036854775808 ≤ F0 i ∧ F0 i ≤ 9223372036854775807)) :
    Calls Try.prog 4 #[.slice A len cap] w fun e w' => e = .returned (.bool true) ∧ Below w.heap.size w w' := by
  have HA := Lib.hid hA; clear hA
  have HB := Lib.hid hb; clear hb
  go_enter Try.func4, Try.ntmps4
  go_wp2_with fail
  refine (works_any _).mono ?_; rintro e w1 ⟨rfl, hb1⟩
  go_wp2_with fail
  refine (new_any _).mono ?_; rintro e w2 ⟨rfl, hw2⟩
  have hq0 : Below w.heap.size w w2 ∧ w.heap.size ≤ w1.heap.size ∧ Blk w2 w1.heap.size 42 (rollCells true fun _ => false) := ⟨by rw [hw2]; exact hb1.alloc hb1.size _, hb1.size, by rw [hw2]; exact Blk.new _ _ _⟩
  clear hw2
  generalize w1.heap.size = g at hq0 ⊢
  clear hb1
  have Q0 := Lib.hid hq0; clear hq0
  go_wp2_with fail
  go_loopw [5] (fun i wr => ∃ (k : Nat) (f : Nat → Bool), k ≤ len ∧ i = .int .i64 k ∧ RF w g w2.heap.size f f wr) (fun i _ => len - (intOf i).toNat)
  case atStart => exact ⟨0, fun _ => false, by omega, rfl, Q0.out.1.alloc Q0.out.1.size _, Q0.out.2.1, Q0.out.1.size, Q0.out.2.2.alloc _, Blk.new _ _ _⟩
  case round =>
    obtain ⟨k, f, hk, rfl, hq⟩ := hrel
    clear Q0
    generalize w2.heap.size = q at hq ⊢
    by_cases hlt : k < len
    · obtain ⟨b0, off, rfl, hbl, hc⟩ := HA.out k hlt
      have hc0 : wr.cell? ⟨b0, off + k * 2, none⟩ = some (.int .i64 (F0 k)) := (hq.1.cell (p := ⟨b0, off + k * 2, none⟩) hbl).trans (hc 0 _ rfl)
      have hc1 : wr.cell? ⟨b0, off + k * 2 + 1, none⟩ = some (.bool (F1 k)) := (hq.1.cell (p := ⟨b0, off + k * 2 + 1, none⟩) hbl).trans (hc 1 _ rfl)
      have HC1 := Lib.hid (fun (W : World) (h : Below w.heap.size w W) => (h.cell (p := ⟨b0, off + k * 2 + 1, none⟩) hbl).trans (hc 1 _ rfl))
      clear hc HA
      obtain ⟨u1, u2⟩ := HB.out k hlt
      generalize F0 k = j at *
      rcases hlv : F1 k with _ | _
      · rw [hlv] at hc1
        have HC2 : Hid (∀ W : World, Below w.heap.size w W → W.cell? ⟨b0, off + k * 2 + 1, none⟩ = some (.bool false)) := Lib.hid (fun W h => by rw [← hlv]; exact HC1.out W h)
        clear hlv HC1
        by_cases h1 : j < 0
        · obtain ⟨e1, e2⟩ := turn_out f j true (.inl h1)
          have E1 := Lib.hid e1; clear e1
          have E2 := Lib.hid e2; clear e2
          go_wp2_with fail
          refine (enter_f j 2 f E1.out E2.out hq).mono ?_; rintro e w' ⟨rfl, hq1⟩; clear hq hc0 hc1
          go_wp2_with fail
          go_loopw [9, 10] (fun x i wr => ∃ m : Nat, m ≤ 8 ∧ i = .int .i64 m ∧ x = .int .i64 (gsum (f) m) ∧ RF w g q (f) (f) wr) (fun _ i _ => 8 - (intOf i).toNat)
          case atStart => exact ⟨0, by omega, rfl, rfl, hq1⟩
          case round =>
            obtain ⟨m, hm, rfl, rfl, hqi⟩ := hrel
            have hgl := gsum_lt (f) m
            by_cases hm8 : m < 8
            · have hcm := hqi.at_ hm8
              have SW := Lib.hid (sum_wrap (f) m hm)
              have SW0 := Lib.hid (sum_wrap0 (f) m hm)
              rcases hfm : (f) m with _ | _
              · have e0 : iv (f) m = 0 := by simp [iv, hfm]
                rw [e0] at hcm
                have HFM := Lib.hid hfm; clear hfm e0
                go_wp2_with fail
                go_roundw
                case rel => exact ⟨m + 1, by omega, by go_num, by rw [SW0.out, gsum, HFM.out]; simp, hqi⟩
                case measure => simp [intOf]; omega
              · have e0 : iv (f) m = 1 := by simp [iv, hfm]
                rw [e0] at hcm
                have HFM := Lib.hid hfm; clear hfm e0
                go_wp2_with fail
                go_roundw
                case rel => exact ⟨m + 1, by omega, by go_num, by rw [gsum, if_pos HFM.out, SW.out], hqi⟩
                case measure => simp [intOf]; omega
            · obtain rfl : m = 8 := by omega
              go_wp2_with fail
              refine (groups_f hqi).mono ?_; rintro e w' ⟨rfl, rfl⟩
              go_wp2_with fail
              go_roundw
              case rel => exact ⟨k + 1, f, by omega, by go_num, hqi⟩
              case measure => simp [intOf]; omega
        · by_cases h2 : 8 ≤ j
          · obtain ⟨e1, e2⟩ := turn_out f j true (.inr h2)
            have E1 := Lib.hid e1; clear e1
            have E2 := Lib.hid e2; clear e2
            go_wp2_with fail
            refine (enter_f j 2 f E1.out E2.out hq).mono ?_; rintro e w' ⟨rfl, hq1⟩; clear hq hc0 hc1
            go_wp2_with fail
            go_loopw [9, 10] (fun x i wr => ∃ m : Nat, m ≤ 8 ∧ i = .int .i64 m ∧ x = .int .i64 (gsum (f) m) ∧ RF w g q (f) (f) wr) (fun _ i _ => 8 - (intOf i).toNat)
            case atStart => exact ⟨0, by omega, rfl, rfl, hq1⟩
            case round =>
              obtain ⟨m, hm, rfl, rfl, hqi⟩ := hrel
              have hgl := gsum_lt (f) m
              by_cases hm8 : m < 8
              · have hcm := hqi.at_ hm8
                have SW := Lib.hid (sum_wrap (f) m hm)
                have SW0 := Lib.hid (sum_wrap0 (f) m hm)
                rcases hfm : (f) m with _ | _
                · have e0 : iv (f) m = 0 := by simp [iv, hfm]
                  rw [e0] at hcm
                  have HFM := Lib.hid hfm; clear hfm e0
                  go_wp2_with fail
                  go_roundw
                  case rel => exact ⟨m + 1, by omega, by go_num, by rw [SW0.out, gsum, HFM.out]; simp, hqi⟩
                  case measure => simp [intOf]; omega
                · have e0 : iv (f) m = 1 := by simp [iv, hfm]
                  rw [e0] at hcm
                  have HFM := Lib.hid hfm; clear hfm e0
                  go_wp2_with fail
                  go_roundw
                  case rel => exact ⟨m + 1, by omega, by go_num, by rw [gsum, if_pos HFM.out, SW.out], hqi⟩
                  case measure => simp [intOf]; omega
              · obtain rfl : m = 8 := by omega
                go_wp2_with fail
                refine (groups_f hqi).mono ?_; rintro e w' ⟨rfl, rfl⟩
                go_wp2_with fail
                go_roundw
                case rel => exact ⟨k + 1, f, by omega, by go_num, hqi⟩
                case measure => simp [intOf]; omega
          · obtain ⟨jn, rfl⟩ := Int.eq_ofNat_of_zero_le (show 0 ≤ j by omega)
            have hj8 : jn < 8 := by omega
            by_cases h3 : f jn = true
            · obtain ⟨e1, e2⟩ := turn_same f jn true hj8 h3
              have E1 := Lib.hid e1; clear e1
              have E2 := Lib.hid e2; clear e2
              have e3 : iv f jn = 1 := by simp [iv, h3]
              have E3 := Lib.hid e3; clear e3
              have H3 := Lib.hid h3; clear h3
              go_wp2_with fail
              refine (enter_f jn 80 f E1.out E2.out hq).mono ?_; rintro e w' ⟨rfl, hq1⟩; clear hq hc0 hc1
              have hc1 := HC2.out _ hq1.1
              have hcq := hq1.at_ hj8
              rw [E3.out] at hcq
              go_wp2_with fail
              go_quiet (fail)
              go_wp2_with fail
              go_loopw [9, 10] (fun x i wr => ∃ m : Nat, m ≤ 8 ∧ i = .int .i64 m ∧ x = .int .i64 (gsum (f) m) ∧ RF w g q (f) (f) wr) (fun _ i _ => 8 - (intOf i).toNat)
              case atStart => exact ⟨0, by omega, rfl, rfl, hq1.drewN _⟩
              case round =>
                obtain ⟨m, hm, rfl, rfl, hqi⟩ := hrel
                have hgl := gsum_lt (f) m
                by_cases hm8 : m < 8
                · have hcm := hqi.at_ hm8
                  have SW := Lib.hid (sum_wrap (f) m hm)
                  have SW0 := Lib.hid (sum_wrap0 (f) m hm)
                  rcases hfm : (f) m with _ | _
                  · have e0 : iv (f) m = 0 := by simp [iv, hfm]
                    rw [e0] at hcm
                    have HFM := Lib.hid hfm; clear hfm e0
                    go_wp2_with fail
                    go_roundw
                    case rel => exact ⟨m + 1, by omega, by go_num, by rw [SW0.out, gsum, HFM.out]; simp, hqi⟩
                    case measure => simp [intOf]; omega
                  · have e0 : iv (f) m = 1 := by simp [iv, hfm]
                    rw [e0] at hcm
                    have HFM := Lib.hid hfm; clear hfm e0
                    go_wp2_with fail
                    go_roundw
                    case rel => exact ⟨m + 1, by omega, by go_num, by rw [gsum, if_pos HFM.out, SW.out], hqi⟩
                    case measure => simp [intOf]; omega
                · obtain rfl : m = 8 := by omega
                  go_wp2_with fail
                  refine (groups_f hqi).mono ?_; rintro e w' ⟨rfl, rfl⟩
                  go_wp2_with fail
                  go_roundw
                  case rel => exact ⟨k + 1, f, by omega, by go_num, hqi⟩
                  case measure => simp [intOf]; omega
            · obtain ⟨e1, e2⟩ := turn_done f jn true hj8 h3
              have E1 := Lib.hid e1; clear e1
              have E2 := Lib.hid e2; clear e2
              have e3 : iv f jn = 0 := by simp [iv, h3]
              have E3 := Lib.hid e3; clear e3 h3
              go_wp2_with fail
              refine (enter_f jn 0 (upd f jn true) E1.out E2.out hq).mono ?_; rintro e w' ⟨rfl, hq1⟩; clear hq hc0 hc1
              have hc1 := HC2.out _ hq1.1
              have hcq := hq1.at_ hj8
              have hfr := hq1.fr jn
              rw [E3.out] at hcq
              go_wp2_with fail
              go_quiet (fail)
              go_wp2_with fail
              go_loopw [9, 10] (fun x i wr => ∃ m : Nat, m ≤ 8 ∧ i = .int .i64 m ∧ x = .int .i64 (gsum (upd f jn true) m) ∧ RF w g q (upd f jn true) (upd f jn true) wr) (fun _ i _ => 8 - (intOf i).toNat)
              case atStart => exact ⟨0, by omega, rfl, rfl, (hq1.drewN _).store hj8 true⟩
              case round =>
                obtain ⟨m, hm, rfl, rfl, hqi⟩ := hrel
                have hgl := gsum_lt (upd f jn true) m
                by_cases hm8 : m < 8
                · have hcm := hqi.at_ hm8
                  have SW := Lib.hid (sum_wrap (upd f jn true) m hm)
                  have SW0 := Lib.hid (sum_wrap0 (upd f jn true) m hm)
                  rcases hfm : (upd f jn true) m with _ | _
                  · have e0 : iv (upd f jn true) m = 0 := by simp [iv, hfm]
                    rw [e0] at hcm
                    have HFM := Lib.hid hfm; clear hfm e0
                    go_wp2_with fail
                    go_roundw
                    case rel => exact ⟨m + 1, by omega, by go_num, by rw [SW0.out, gsum, HFM.out]; simp, hqi⟩
                    case measure => simp [intOf]; omega
                  · have e0 : iv (upd f jn true) m = 1 := by simp [iv, hfm]
                    rw [e0] at hcm
                    have HFM := Lib.hid hfm; clear hfm e0
                    go_wp2_with fail
                    go_roundw
                    case rel => exact ⟨m + 1, by omega, by go_num, by rw [gsum, if_pos HFM.out, SW.out], hqi⟩
                    case measure => simp [intOf]; omega
                · obtain rfl : m = 8 := by omega
                  go_wp2_with fail
                  refine (groups_f hqi).mono ?_; rintro e w' ⟨rfl, rfl⟩
                  go_wp2_with fail
                  go_roundw
                  case rel => exact ⟨k + 1, upd f jn true, by omega, by go_num, hqi⟩
                  case measure => simp [intOf]; omega
      · rw [hlv] at hc1
        have HC2 : Hid (∀ W : World, Below w.heap.size w W → W.cell? ⟨b0, off + k * 2 + 1, none⟩ = some (.bool true)) := Lib.hid (fun W h => by rw [← hlv]; exact HC1.out W h)
        clear hlv HC1
        by_cases h1 : j < 0
        · obtain ⟨e1, e2⟩ := turn_out f j false (.inl h1)
          have E1 := Lib.hid e1; clear e1
          have E2 := Lib.hid e2; clear e2
          go_wp2_with fail
          refine (leave_f j 2 f E1.out E2.out hq).mono ?_; rintro e w' ⟨rfl, hq1⟩; clear hq hc0 hc1
          go_wp2_with fail
          go_loopw [9, 10] (fun x i wr => ∃ m : Nat, m ≤ 8 ∧ i = .int .i64 m ∧ x = .int .i64 (gsum (f) m) ∧ RF w g q (f) (f) wr) (fun _ i _ => 8 - (intOf i).toNat)
          case atStart => exact ⟨0, by omega, rfl, rfl, hq1⟩
          case round =>
            obtain ⟨m, hm, rfl, rfl, hqi⟩ := hrel
            have hgl := gsum_lt (f) m
            by_cases hm8 : m < 8
            · have hcm := hqi.at_ hm8
              have SW := Lib.hid (sum_wrap (f) m hm)
              have SW0 := Lib.hid (sum_wrap0 (f) m hm)
              rcases hfm : (f) m with _ | _
              · have e0 : iv (f) m = 0 := by simp [iv, hfm]
                rw [e0] at hcm
                have HFM := Lib.hid hfm; clear hfm e0
                go_wp2_with fail
                go_roundw
                case rel => exact ⟨m + 1, by omega, by go_num, by rw [SW0.out, gsum, HFM.out]; simp, hqi⟩
                case measure => simp [intOf]; omega
              · have e0 : iv (f) m = 1 := by simp [iv, hfm]
                rw [e0] at hcm
                have HFM := Lib.hid hfm; clear hfm e0
                go_wp2_with fail
                go_roundw
                case rel => exact ⟨m + 1, by omega, by go_num, by rw [gsum, if_pos HFM.out, SW.out], hqi⟩
                case measure => simp [intOf]; omega
            · obtain rfl : m = 8 := by omega
              go_wp2_with fail
              refine (groups_f hqi).mono ?_; rintro e w' ⟨rfl, rfl⟩
              go_wp2_with fail
              go_roundw
              case rel => exact ⟨k + 1, f, by omega, by go_num, hqi⟩
              case measure => simp [intOf]; omega
        · by_cases h2 : 8 ≤ j
          · obtain ⟨e1, e2⟩ := turn_out f j false (.inr h2)
            have E1 := Lib.hid e1; clear e1
            have E2 := Lib.hid e2; clear e2
            go_wp2_with fail
            refine (leave_f j 2 f E1.out E2.out hq).mono ?_; rintro e w' ⟨rfl, hq1⟩; clear hq hc0 hc1
            go_wp2_with fail
            go_loopw [9, 10] (fun x i wr => ∃ m : Nat, m ≤ 8 ∧ i = .int .i64 m ∧ x = .int .i64 (gsum (f) m) ∧ RF w g q (f) (f) wr) (fun _ i _ => 8 - (intOf i).toNat)
            case atStart => exact ⟨0, by omega, rfl, rfl, hq1⟩
            case round =>
              obtain ⟨m, hm, rfl, rfl, hqi⟩ := hrel
              have hgl := gsum_lt (f) m
              by_cases hm8 : m < 8
              · have hcm := hqi.at_ hm8
                have SW := Lib.hid (sum_wrap (f) m hm)
                have SW0 := Lib.hid (sum_wrap0 (f) m hm)
                rcases hfm : (f) m with _ | _
                · have e0 : iv (f) m = 0 := by simp [iv, hfm]
                  rw [e0] at hcm
                  have HFM := Lib.hid hfm; clear hfm e0
                  go_wp2_with fail
                  go_roundw
                  case rel => exact ⟨m + 1, by omega, by go_num, by rw [SW0.out, gsum, HFM.out]; simp, hqi⟩
                  case measure => simp [intOf]; omega
                · have e0 : iv (f) m = 1 := by simp [iv, hfm]
                  rw [e0] at hcm
                  have HFM := Lib.hid hfm; clear hfm e0
                  go_wp2_with fail
                  go_roundw
                  case rel => exact ⟨m + 1, by omega, by go_num, by rw [gsum, if_pos HFM.out, SW.out], hqi⟩
                  case measure => simp [intOf]; omega
              · obtain rfl : m = 8 := by omega
                go_wp2_with fail
                refine (groups_f hqi).mono ?_; rintro e w' ⟨rfl, rfl⟩
                go_wp2_with fail
                go_roundw
                case rel => exact ⟨k + 1, f, by omega, by go_num, hqi⟩
                case measure => simp [intOf]; omega
          · obtain ⟨jn, rfl⟩ := Int.eq_ofNat_of_zero_le (show 0 ≤ j by omega)
            have hj8 : jn < 8 := by omega
            by_cases h3 : f jn = false
            · obtain ⟨e1, e2⟩ := turn_same f jn false hj8 h3
              have E1 := Lib.hid e1; clear e1
              have E2 := Lib.hid e2; clear e2
              have e3 : iv f jn = 0 := by simp [iv, h3]
              have E3 := Lib.hid e3; clear e3
              have H3 := Lib.hid h3; clear h3
              go_wp2_with fail
              refine (leave_f jn 80 f E1.out E2.out hq).mono ?_; rintro e w' ⟨rfl, hq1⟩; clear hq hc0 hc1
              have hc1 := HC2.out _ hq1.1
              have hcq := hq1.at_ hj8
              rw [E3.out] at hcq
              go_wp2_with fail
              go_quiet (fail)
              go_wp2_with fail
              go_loopw [9, 10] (fun x i wr => ∃ m : Nat, m ≤ 8 ∧ i = .int .i64 m ∧ x = .int .i64 (gsum (f) m) ∧ RF w g q (f) (f) wr) (fun _ i _ => 8 - (intOf i).toNat)
              case atStart => exact ⟨0, by omega, rfl, rfl, hq1.drewN _⟩
              case round =>
                obtain ⟨m, hm, rfl, rfl, hqi⟩ := hrel
                have hgl := gsum_lt (f) m
                by_cases hm8 : m < 8
                · have hcm := hqi.at_ hm8
                  have SW := Lib.hid (sum_wrap (f) m hm)
                  have SW0 := Lib.hid (sum_wrap0 (f) m hm)
                  rcases hfm : (f) m with _ | _
                  · have e0 : iv (f) m = 0 := by simp [iv, hfm]
                    rw [e0] at hcm
                    have HFM := Lib.hid hfm; clear hfm e0
                    go_wp2_with fail
                    go_roundw
                    case rel => exact ⟨m + 1, by omega, by go_num, by rw [SW0.out, gsum, HFM.out]; simp, hqi⟩
                    case measure => simp [intOf]; omega
                  · have e0 : iv (f) m = 1 := by simp [iv, hfm]
                    rw [e0] at hcm
                    have HFM := Lib.hid hfm; clear hfm e0
                    go_wp2_with fail
                    go_roundw
                    case rel => exact ⟨m + 1, by omega, by go_num, by rw [gsum, if_pos HFM.out, SW.out], hqi⟩
                    case measure => simp [intOf]; omega
                · obtain rfl : m = 8 := by omega
                  go_wp2_with fail
                  refine (groups_f hqi).mono ?_; rintro e w' ⟨rfl, rfl⟩
                  go_wp2_with fail
                  go_roundw
                  case rel => exact ⟨k + 1, f, by omega, by go_num, hqi⟩
                  case measure => simp [intOf]; omega
            · obtain ⟨e1, e2⟩ := turn_done f jn false hj8 h3
              have E1 := Lib.hid e1; clear e1
              have E2 := Lib.hid e2; clear e2
              have e3 : iv f jn = 1 := by simp [iv, h3]
              have E3 := Lib.hid e3; clear e3 h3
              go_wp2_with fail
              refine (leave_f jn 0 (upd f jn false) E1.out E2.out hq).mono ?_; rintro e w' ⟨rfl, hq1⟩; clear hq hc0 hc1
              have hc1 := HC2.out _ hq1.1
              have hcq := hq1.at_ hj8
              have hfr := hq1.fr jn
              rw [E3.out] at hcq
              go_wp2_with fail
              go_quiet (fail)
              go_wp2_with fail
              go_loopw [9, 10] (fun x i wr => ∃ m : Nat, m ≤ 8 ∧ i = .int .i64 m ∧ x = .int .i64 (gsum (upd f jn false) m) ∧ RF w g q (upd f jn false) (upd f jn false) wr) (fun _ i _ => 8 - (intOf i).toNat)
              case atStart => exact ⟨0, by omega, rfl, rfl, (hq1.drewN _).store hj8 false⟩
              case round =>
                obtain ⟨m, hm, rfl, rfl, hqi⟩ := hrel
                have hgl := gsum_lt (upd f jn false) m
                by_cases hm8 : m < 8
                · have hcm := hqi.at_ hm8
                  have SW := Lib.hid (sum_wrap (upd f jn false) m hm)
                  have SW0 := Lib.hid (sum_wrap0 (upd f jn false) m hm)
                  rcases hfm : (upd f jn false) m with _ | _
                  · have e0 : iv (upd f jn false) m = 0 := by simp [iv, hfm]
                    rw [e0] at hcm
                    have HFM := Lib.hid hfm; clear hfm e0
                    go_wp2_with fail
                    go_roundw
                    case rel => exact ⟨m + 1, by omega, by go_num, by rw [SW0.out, gsum, HFM.out]; simp, hqi⟩
                    case measure => simp [intOf]; omega
                  · have e0 : iv (upd f jn false) m = 1 := by simp [iv, hfm]
                    rw [e0] at hcm
                    have HFM := Lib.hid hfm; clear hfm e0
                    go_wp2_with fail
                    go_roundw
                    case rel => exact ⟨m + 1, by omega, by go_num, by rw [gsum, if_pos HFM.out, SW.out], hqi⟩
                    case measure => simp [intOf]; omega
                · obtain rfl : m = 8 := by omega
                  go_wp2_with fail
                  refine (groups_f hqi).mono ?_; rintro e w' ⟨rfl, rfl⟩
                  go_wp2_with fail
                  go_roundw
                  case rel => exact ⟨k + 1, upd f jn false, by omega, by go_num, hqi⟩
                  case measure => simp [intOf]; omega
    · go_wp2_with fail
      go_ret
      exact ⟨rfl, hq.1⟩

set_option maxRecDepth 100000 in
theorem lifted (os : Os) (started : os.Started) (H : Type) (enc : TypeId × Value → H) :
    ReturnsInHanded {} Try.checked os 4 .any (Rows.rollsCountsSpec.pre6 enc Try.prog Try.f4 Rows.rollsCountsRow.domain false) (Rows.rollsCountsSpec.post enc Try.prog Try.f4 false true false false) := by
  refine returnsInHanded_of_change (C := Try.checked) own started (by kernel_rfl) Try.func4
    (ChangeSpec.witness6 (enc := enc) (C := Try.checked) false ⟨#[], #[.slice none 0 0], []⟩ 8 (by kernel_rfl) (by kernel_rfl) (by kernel_rfl) (by kernel_rfl)) ?_
  intro W base args ds gs before hval0 hW hcnd _
  have hval : ∀ (j : Nat) t v, Try.f4.params[j]? = some t → args[j]? = some v → Value.okWide Try.prog W .any base t v := hval0
  have hW' := hW
  obtain ⟨p, q, hA0, hV, rfl, hfz, hnd⟩ := hW
  have hA : DataW.TrodAll enc Try.prog W 0 (fun _ => true) true Try.f4.params.toList args.toList ds p := hA0
  rw [Try.params4] at hA hval
  obtain ⟨v0, vs0, d0, ds0, p0, q0, hargs, rfl, rfl, h0, r0⟩ := trodAll_cons hA
  obtain ⟨rfl, rfl, rfl⟩ := trodAll_nil r0
  obtain rfl : args = #[v0] := by cases args; simp_all
  obtain ⟨rfl, rfl⟩ := trodVars_none hV
  have k0 := h0
  have lt0 : ∀ x ∈ p0, x.block < W.heap.size := by obtain ⟨m, hm⟩ := k0; exact DataW.trod_lt m _ _ _ hm
  obtain ⟨s0, len0, cap0, rfl⟩ := okWide_slice Try.underlying22 (hval 0 22 v0 rfl rfl)
  obtain ⟨F0, F1, hrd, hml, hwf⟩ := open_ib Try.underlying22 Try.underlying28 (by kernel_rfl) Try.underlying3 Try.underlying4 (by kernel_rfl) h0
  clear hA0 hval0
  refine (walk s0 len0 cap0 F0 F1 W (by unfold maxLen at hml; omega) hrd (fun i hi => wf_bd (hwf i hi))).mono fun e W' ⟨he, bel⟩ => ?_
  subst he
  exact ⟨_, rfl, _, _, _, [], _, [], hW', trodAll_mk1 (shut_bool Try.underlying4 _), (trodAll_cons_mk (Below.trod laidOut (by kernel_rfl) (of_decide_eq_true (by kernel_rfl)) k0 bel lt0) trodAll_mk0), rfl, bel.frame _, fun h => by cases h⟩

theorem over : Rows.rollsCountsRow.holds Try.pinned (OpenSpec.ofChange Rows.rollsCountsSpec) :=
  OpenClaim.holds_of_wide 4 Try.f4 rfl rfl rfl rfl rfl rfl rfl ⟨rfl, rfl, rfl, rfl, rfl⟩ rfl rfl rfl rfl rfl (by kernel_rfl) Try.func4 (by kernel_rfl)
    (of_decide_eq_true (by kernel_rfl)) (by unfold Func.isWrapper; first | (rw [if_pos (by decide +kernel)]; kernel_rfl) | (rw [if_neg (by decide +kernel)]; exact ⟨rfl, rfl⟩))
    (fun os started H enc _ => lifted os started H enc)

theorem proved : Rows.RollsCountsSaid := over
#print axioms proved
end Go.Proofs.Ytogcjflppjebfaa.rollsCounts
