/- AlarmKnown, call by call. Printed by gen_known.py. -/
import Derived.Test.YtlhcefpdkoliaaaWorks
namespace Go.Proofs.Ytlhcefpdkoliaaa
open Go.ChangeShapes Go.WideShapes Go.ChangeAt Go.RowKit Go.Deep Go.Maps

set_option maxRecDepth 100000 in
set_option maxHeartbeats 16000000 in
theorem known_any (w : World) : Calls Try.prog 4 #[] w fun e w' => e = .returned (.bool true) ∧ Below w.heap.size w w' := by
  go_enter Try.func4, Try.ntmps4
  go_wp2_with fail
  go_loopw [1] (fun i wr => ∃ k : Int, -2 ≤ k ∧ k ≤ 20 ∧ i = .int .i64 k ∧ Below w.heap.size w wr) (fun i _ => (20 - intOf i).toNat)
  case atStart => exact ⟨-2, by omega, by omega, rfl, Below.refl _ _⟩
  case round =>
    obtain ⟨k, hk0, hk1, rfl, hb⟩ := hrel
    by_cases hlt : k < 20
    · by_cases h1 : k < 1
      · go_wp2_with fail
        refine (new_bad k _ (.inl h1)).mono ?_; rintro e w' ⟨rfl, rfl⟩
        go_wp2_with fail
        go_roundw
        case rel => exact ⟨k + 1, by omega, by omega, by go_num, hb⟩
        case measure => simp [intOf]; omega
      · by_cases h2 : 16 < k
        · go_wp2_with fail
          refine (new_bad k _ (.inr h2)).mono ?_; rintro e w' ⟨rfl, rfl⟩
          go_wp2_with fail
          go_roundw
          case rel => exact ⟨k + 1, by omega, by omega, by go_num, hb⟩
          case measure => simp [intOf]; omega
        · obtain ⟨n, rfl⟩ := Int.eq_ofNat_of_zero_le (show 0 ≤ k by omega)
          go_wp2_with fail
          refine (new_any n _ (by omega) (by omega)).mono ?_; rintro e w' ⟨rfl, rfl⟩
          have hb2 := (hb.alloc hb.size (.map #[] 0)).alloc (by have := hb.size; simp; omega) (.cells #[.int .i64 (n : Int), .map (some wr.heap.size)] 42)
          clear hb
          go_wp2_with fail
          go_roundw
          case rel => exact ⟨n + 1, by omega, by omega, by go_num, hb2⟩
          case measure => simp [intOf]; omega
    · go_wp2_with fail
      refine (new_c w _ 4 [0, 0, 0, 0] (by omega) (by omega) (by decide) hb).mono ?_; rintro e w' ⟨rfl, hs0⟩
      clear hb
      go_wp2_with fail
      refine (set_c [0, 0, 0, 0] [0, 5, 0, 0] 1 5 0 (by decide) (by decide) hs0).mono ?_; rintro e w' ⟨rfl, hs1⟩; clear hs0
      go_wp2_with fail
      refine (fire_c [0, 5, 0, 0] [0, 0, 0, 0] 1 0 (by decide) (by decide) hs1).mono ?_; rintro e w' ⟨rfl, hs2⟩; clear hs1
      go_wp2_with fail
      refine (fire_c [0, 0, 0, 0] [0, 0, 0, 0] 1 80 (by decide) (by decide) hs2).mono ?_; rintro e w' ⟨rfl, hs3⟩; clear hs2
      go_wp2_with fail
      refine (clear_c [0, 0, 0, 0] [0, 0, 0, 0] 1 0 (by decide) (by decide) hs3).mono ?_; rintro e w' ⟨rfl, hs4⟩; clear hs3
      go_wp2_with fail
      refine (set_c [0, 0, 0, 0] [0, 0, 0, 0] 4 1 2 (by decide) (by decide) hs4).mono ?_; rintro e w' ⟨rfl, hs5⟩; clear hs4
      go_wp2_with fail
      refine (set_c [0, 0, 0, 0] [0, 0, 0, 0] (-1) 1 2 (by decide) (by decide) hs5).mono ?_; rintro e w' ⟨rfl, hs6⟩; clear hs5
      go_wp2_with fail
      refine (set_c [0, 0, 0, 0] [0, 0, 0, 0] 1 0 2 (by decide) (by decide) hs6).mono ?_; rintro e w' ⟨rfl, hs7⟩; clear hs6
      go_wp2_with fail
      refine (set_c [0, 0, 0, 0] [0, 0, 0, 0] 1 10001 2 (by decide) (by decide) hs7).mono ?_; rintro e w' ⟨rfl, hs8⟩; clear hs7
      go_wp2_with fail
      refine (clear_c [0, 0, 0, 0] [0, 0, 0, 0] 4 2 (by decide) (by decide) hs8).mono ?_; rintro e w' ⟨rfl, hs9⟩; clear hs8
      go_wp2_with fail
      refine (clear_c [0, 0, 0, 0] [0, 0, 0, 0] (-1) 2 (by decide) (by decide) hs9).mono ?_; rintro e w' ⟨rfl, hs10⟩; clear hs9
      go_wp2_with fail
      refine (fire_c [0, 0, 0, 0] [0, 0, 0, 0] 4 2 (by decide) (by decide) hs10).mono ?_; rintro e w' ⟨rfl, hs11⟩; clear hs10
      go_wp2_with fail
      refine (fire_c [0, 0, 0, 0] [0, 0, 0, 0] (-1) 2 (by decide) (by decide) hs11).mono ?_; rintro e w' ⟨rfl, hs12⟩; clear hs11
      go_wp2_with fail
      refine (left_c [0, 0, 0, 0] 4 0 (by decide) hs12).mono ?_; rintro e w' ⟨rfl, rfl⟩
      go_wp2_with fail
      refine (left_c [0, 0, 0, 0] (-1) 0 (by decide) hs12).mono ?_; rintro e w' ⟨rfl, rfl⟩
      go_wp2_with fail
      refine (set_c [0, 0, 0, 0] [0, 0, 0, 10000] 3 10000 0 (by decide) (by decide) hs12).mono ?_; rintro e w' ⟨rfl, hs13⟩; clear hs12
      go_wp2_with fail
      refine (left_c [0, 0, 0, 10000] 3 10000 (by decide) hs13).mono ?_; rintro e w' ⟨rfl, rfl⟩
      go_wp2_with fail
      refine (set_c [0, 0, 0, 10000] [0, 0, 0, 2] 3 2 0 (by decide) (by decide) hs13).mono ?_; rintro e w' ⟨rfl, hs14⟩; clear hs13
      go_wp2_with fail
      refine (due_c [0, 0, 0, 2] [0, 0, 0, 1] [] (by decide) (by decide) hs14).mono ?_; rintro e w' ⟨v, rfl, hv, hs15⟩; clear hs14
      obtain ⟨A, c, rfl, _⟩ := hv
      go_wp2_with fail
      refine (set_c [0, 0, 0, 1] [0, 0, 0, 2] 3 2 0 (by decide) (by decide) hs15).mono ?_; rintro e w' ⟨rfl, hs16⟩; clear hs15
      go_wp2_with fail
      refine (due_c [0, 0, 0, 2] [0, 0, 0, 1] [] (by decide) (by decide) hs16).mono ?_; rintro e w' ⟨v, rfl, hv, hs17⟩; clear hs16
      obtain ⟨A, c, rfl, _⟩ := hv
      go_wp2_with fail
      refine (due_c [0, 0, 0, 1] [0, 0, 0, 0] [3] (by decide) (by decide) hs17).mono ?_; rintro e w' ⟨v, rfl, hv, hs18⟩; clear hs17
      go_wp2_with fail
      have hl := IL.lit1 w' 3
      have hs19 := hs18.alloc (.cells #[.int .i64 3] 3)
      refine (eq_any _ _ [3] [3] _ (hv.alloc _) hl (by decide) (by decide)).mono ?_; rintro e w' ⟨rfl, nq, rfl⟩; clear hl hv hs18
      have hs20 := hs19.drewN nq; clear hs19
      go_wp2_with fail
      refine (fire_c [0, 0, 0, 0] [0, 0, 0, 0] 3 80 (by decide) (by decide) hs20).mono ?_; rintro e w' ⟨rfl, hs21⟩; clear hs20
      go_wp2_with fail
      refine (set_c [0, 0, 0, 0] [1, 0, 0, 0] 0 1 0 (by decide) (by decide) hs21).mono ?_; rintro e w' ⟨rfl, hs22⟩; clear hs21
      go_wp2_with fail
      refine (clear_c [1, 0, 0, 0] [0, 0, 0, 0] 0 0 (by decide) (by decide) hs22).mono ?_; rintro e w' ⟨rfl, hs23⟩; clear hs22
      go_wp2_with fail
      refine (due_c [0, 0, 0, 0] [0, 0, 0, 0] [] (by decide) (by decide) hs23).mono ?_; rintro e w' ⟨v, rfl, hv, hs24⟩; clear hs23
      obtain ⟨A, c, rfl, _⟩ := hv
      have hn : NoneAt w (.pointer none) _ := ⟨hs24.1, .inl rfl⟩
      clear hs24
      go_wp2_with fail
      go_loopw [9, 10] (fun v i wr => ∃ k : Nat, k ≤ 2 ∧ i = .int .i64 k ∧ NoneAt w v wr) (fun _ i _ => 2 - (intOf i).toNat)
      case atStart => exact ⟨0, by omega, rfl, hn⟩
      case round =>
        clear hn
        obtain ⟨k, hk, rfl, hn⟩ := hrel
        by_cases hlt : k < 2
        · go_wp2_with fail
          refine (tick_n hn).mono ?_; rintro e w' ⟨rfl, rfl⟩
          go_wp2_with fail
          refine (set_n _ _ hn).mono ?_; rintro e w' ⟨rfl, rfl⟩
          go_wp2_with fail
          refine (clear_n _ hn).mono ?_; rintro e w' ⟨rfl, rfl⟩
          go_wp2_with fail
          refine (fire_n _ hn).mono ?_; rintro e w' ⟨rfl, rfl⟩
          go_wp2_with fail
          refine (left_n _ hn).mono ?_; rintro e w' ⟨rfl, rfl⟩
          go_wp2_with fail
          go_roundw
          case rel => exact ⟨k + 1, by omega, by go_num, hn.1.alloc hn.1.size _, .inr ⟨_, rfl, Blk.new _ _ _⟩⟩
          case measure => simp [intOf]; omega
        · go_wp2_with fail
          have hb := hn.1
          clear hn
          refine (works_any _).mono ?_; rintro e w' ⟨rfl, hb1⟩
          go_wp2_with fail
          go_ret
          exact ⟨rfl, hb.trans (hb1.mono hb.size)⟩

end Go.Proofs.Ytlhcefpdkoliaaa
