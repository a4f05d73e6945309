/- Works and CellKnown: closed walks, call by call. Printed by gen_known.py. -/
import Derived.Test.YtklpgegooakfjaaWalks
namespace Go.Proofs.Ytklpgegooakfjaa
open Go.ChangeShapes Go.WideShapes Go.ChangeAt Go.RowKit Go.Deep

theorem C.keep {w0 : World} {g : Nat} {st k st' k' : Int} {w w' : World} (h : C w0 g st k w) (hb : Blk w' g 41 (cl st' k')) (hf : Fr g w w') : C w0 g st' k' w' :=
  ⟨h.1.grown hf (by have := h.1.size; omega) (fun j hj => by injection hj with hj; have := h.2.1; omega), h.2.1, hb⟩
theorem write_c (st k n r st' k' : Int) (hr : wr st k n = (r, st', k')) (hst : st = 0 ∨ st = 1 ∨ st = 2 ∨ st = 3 ∨ st = 4) {w0 : World} {g : Nat} {w : World} (h : C w0 g st k w) :
    Calls Try.prog 10 #[.pointer (some ⟨g, 0, none⟩), .int .i64 n] w fun e w' => e = .returned (.int .i64 r) ∧ C w0 g st' k' w' :=
  (write_any g st k n w hst h.2.2).mono fun e w' ⟨he, hb, hf⟩ => by rw [hr] at he hb; exact ⟨he, h.keep hb hf⟩
theorem crash_c (st k : Int) (b : Bool) (r st' : Int) (hr : cr st b = (r, st')) (hst : st = 0 ∨ st = 1 ∨ st = 2 ∨ st = 3 ∨ st = 4) {w0 : World} {g : Nat} {w : World} (h : C w0 g st k w) :
    Calls Try.prog 12 #[.pointer (some ⟨g, 0, none⟩), .bool b] w fun e w' => e = .returned (.int .i64 r) ∧ C w0 g st' k w' :=
  (crash_any g st k b w hst h.2.2).mono fun e w' ⟨he, hb, hf⟩ => by rw [hr] at he hb; exact ⟨he, h.keep hb hf⟩
theorem start_c (st k r st' : Int) (hr : sr st = (r, st')) (hst : st = 0 ∨ st = 1 ∨ st = 2 ∨ st = 3 ∨ st = 4) {w0 : World} {g : Nat} {w : World} (h : C w0 g st k w) :
    Calls Try.prog 14 #[.pointer (some ⟨g, 0, none⟩)] w fun e w' => e = .returned (.int .i64 r) ∧ C w0 g st' k w' :=
  (start_any g st k w hst h.2.2).mono fun e w' ⟨he, hb, hf⟩ => by rw [hr] at he hb; exact ⟨he, h.keep hb hf⟩
theorem read_c {w0 : World} {g : Nat} {st k : Int} {w : World} (h : C w0 g st k w) : Calls Try.prog 16 #[.pointer (some ⟨g, 0, none⟩)] w fun e w' => e = .returned (.int .i64 k) ∧ w = w' := read_any g st k w h.2.2
theorem down_c (r : Bool) {st : Int} (hr : (st == 4) = r) {w0 : World} {g : Nat} {k : Int} {w : World} (h : C w0 g st k w) : Calls Try.prog 17 #[.pointer (some ⟨g, 0, none⟩)] w fun e w' => e = .returned (.bool r) ∧ w = w' := down_any g st k r hr w h.2.2
theorem new_c (w0 w : World) (h : Below w0.heap.size w0 w) : Calls Try.prog 7 #[] w fun e w' => e = .returned (.pointer (some ⟨w.heap.size, 0, none⟩)) ∧ C w0 w.heap.size 1 0 w' :=
  (new_any w).mono fun e w' ⟨he, hw⟩ => ⟨he, by rw [hw]; exact ⟨h.alloc h.size _, h.size, Blk.new _ _ _⟩⟩

set_option maxRecDepth 100000 in
set_option maxHeartbeats 2000000 in
theorem works_any (w : World) : Calls Try.prog 18 #[] w fun e w' => e = .returned (.bool true) ∧ Below w.heap.size w w' := by
  go_enter Try.func18, Try.ntmps18
  go_wp2_with fail
  refine (new_c w w (Below.refl _ _)).mono ?_; rintro e w' ⟨rfl, hc0⟩
  go_wp2_with fail
  refine (write_c 1 0 5 0 1 5 (by decide) (by decide) hc0).mono ?_; rintro e w' ⟨rfl, hc1⟩; clear hc0
  go_wp2_with fail
  refine (write_c 1 5 5 9 1 5 (by decide) (by decide) hc1).mono ?_; rintro e w' ⟨rfl, hc2⟩; clear hc1
  go_wp2_with fail
  refine (write_c 1 5 9 0 1 9 (by decide) (by decide) hc2).mono ?_; rintro e w' ⟨rfl, hc3⟩; clear hc2
  go_wp2_with fail
  refine (read_c hc3).mono ?_; rintro e w' ⟨rfl, rfl⟩
  go_wp2_with fail
  refine (crash_c 1 9 false 0 2 (by decide) (by decide) hc3).mono ?_; rintro e w' ⟨rfl, hc4⟩; clear hc3
  go_wp2_with fail
  refine (write_c 2 9 12 270 4 9 (by decide) (by decide) hc4).mono ?_; rintro e w' ⟨rfl, hc5⟩; clear hc4
  go_wp2_with fail
  refine (down_c true (by decide) hc5).mono ?_; rintro e w' ⟨rfl, rfl⟩
  go_wp2_with fail
  refine (read_c hc5).mono ?_; rintro e w' ⟨rfl, rfl⟩
  go_wp2_with fail
  refine (start_c 4 9  0 1 (by decide) (by decide) hc5).mono ?_; rintro e w' ⟨rfl, hc6⟩; clear hc5
  go_wp2_with fail
  refine (crash_c 1 9 true 0 3 (by decide) (by decide) hc6).mono ?_; rintro e w' ⟨rfl, hc7⟩; clear hc6
  go_wp2_with fail
  refine (write_c 3 9 20 270 4 20 (by decide) (by decide) hc7).mono ?_; rintro e w' ⟨rfl, hc8⟩; clear hc7
  go_wp2_with fail
  refine (read_c hc8).mono ?_; rintro e w' ⟨rfl, rfl⟩
  go_wp2_with fail
  refine (start_c 4 20  0 1 (by decide) (by decide) hc8).mono ?_; rintro e w' ⟨rfl, hc9⟩; clear hc8
  go_wp2_with fail
  refine (down_c false (by decide) hc9).mono ?_; rintro e w' ⟨rfl, rfl⟩
  go_wp2_with fail
  go_ret
  exact ⟨rfl, hc9.1⟩

/-- v is nil, or a cell that New did not make. -/
def NoneAt (w0 : World) (v : Value) (w : World) : Prop := Below w0.heap.size w0 w ∧ (v = .pointer none ∨ ∃ g, v = .pointer (some ⟨g, 0, none⟩) ∧ w0.heap.size ≤ g ∧ Blk w g 41 (cl 0 0))
theorem write_n {w0 : World} {v : Value} {w : World} (h : NoneAt w0 v w) : Calls Try.prog 10 #[v, .int .i64 1] w fun e w' => e = .returned (.int .i64 1) ∧ NoneAt w0 v w' := by
  obtain ⟨hb, rfl | ⟨g, rfl, hg, hk⟩⟩ := h
  · exact (write_nil 1 w).mono fun e w' ⟨he, hw⟩ => ⟨he, by rw [← hw]; exact ⟨hb, .inl rfl⟩⟩
  · exact (write_c 0 0 1 1 0 0 (by decide) (by decide) (⟨hb, hg, hk⟩ : C w0 g 0 0 w)).mono fun e w' ⟨he, h⟩ => ⟨he, h.1, .inr ⟨g, rfl, hg, h.2.2⟩⟩
theorem crash_n {w0 : World} {v : Value} {w : World} (h : NoneAt w0 v w) : Calls Try.prog 12 #[v, .bool true] w fun e w' => e = .returned (.int .i64 1) ∧ NoneAt w0 v w' := by
  obtain ⟨hb, rfl | ⟨g, rfl, hg, hk⟩⟩ := h
  · exact (crash_nil true w).mono fun e w' ⟨he, hw⟩ => ⟨he, by rw [← hw]; exact ⟨hb, .inl rfl⟩⟩
  · exact (crash_c 0 0 true 1 0 (by decide) (by decide) (⟨hb, hg, hk⟩ : C w0 g 0 0 w)).mono fun e w' ⟨he, h⟩ => ⟨he, h.1, .inr ⟨g, rfl, hg, h.2.2⟩⟩
theorem start_n {w0 : World} {v : Value} {w : World} (h : NoneAt w0 v w) : Calls Try.prog 14 #[v] w fun e w' => e = .returned (.int .i64 1) ∧ NoneAt w0 v w' := by
  obtain ⟨hb, rfl | ⟨g, rfl, hg, hk⟩⟩ := h
  · exact (start_nil w).mono fun e w' ⟨he, hw⟩ => ⟨he, by rw [← hw]; exact ⟨hb, .inl rfl⟩⟩
  · exact (start_c 0 0 1 0 (by decide) (by decide) (⟨hb, hg, hk⟩ : C w0 g 0 0 w)).mono fun e w' ⟨he, h⟩ => ⟨he, h.1, .inr ⟨g, rfl, hg, h.2.2⟩⟩
theorem read_n {w0 : World} {v : Value} {w : World} (h : NoneAt w0 v w) : Calls Try.prog 16 #[v] w fun e w' => e = .returned (.int .i64 0) ∧ w = w' := by
  obtain ⟨_, rfl | ⟨g, rfl, hg, hk⟩⟩ := h
  · exact read_nil w
  · exact read_any g 0 0 w hk
theorem down_n {w0 : World} {v : Value} {w : World} (h : NoneAt w0 v w) : Calls Try.prog 17 #[v] w fun e w' => e = .returned (.bool false) ∧ w = w' := by
  obtain ⟨_, rfl | ⟨g, rfl, hg, hk⟩⟩ := h
  · exact down_nil w
  · exact down_any g 0 0 false (by decide) w hk

set_option maxRecDepth 100000 in
set_option maxHeartbeats 4000000 in
theorem known_any (w : World) : Calls Try.prog 6 #[] w fun e w' => e = .returned (.bool true) ∧ Below w.heap.size w w' := by
  go_enter Try.func6, Try.ntmps6
  go_wp2_with fail
  refine (new_c w w (Below.refl _ _)).mono ?_; rintro e w' ⟨rfl, hc0⟩
  go_wp2_with fail
  refine (read_c hc0).mono ?_; rintro e w' ⟨rfl, rfl⟩
  go_wp2_with fail
  refine (down_c false (by decide) hc0).mono ?_; rintro e w' ⟨rfl, rfl⟩
  go_wp2_with fail
  refine (start_c 1 0  80 1 (by decide) (by decide) hc0).mono ?_; rintro e w' ⟨rfl, hc1⟩; clear hc0
  go_wp2_with fail
  refine (write_c 1 0 0 9 1 0 (by decide) (by decide) hc1).mono ?_; rintro e w' ⟨rfl, hc2⟩; clear hc1
  go_wp2_with fail
  refine (write_c 1 0 (-1) 9 1 0 (by decide) (by decide) hc2).mono ?_; rintro e w' ⟨rfl, hc3⟩; clear hc2
  go_wp2_with fail
  refine (write_c 1 0 (-9223372036854775808) 9 1 0 (by decide) (by decide) hc3).mono ?_; rintro e w' ⟨rfl, hc4⟩; clear hc3
  go_wp2_with fail
  refine (write_c 1 0 9007199254740992 9 1 0 (by decide) (by decide) hc4).mono ?_; rintro e w' ⟨rfl, hc5⟩; clear hc4
  go_wp2_with fail
  refine (write_c 1 0 9223372036854775807 9 1 0 (by decide) (by decide) hc5).mono ?_; rintro e w' ⟨rfl, hc6⟩; clear hc5
  go_wp2_with fail
  refine (write_c 1 0 1 0 1 1 (by decide) (by decide) hc6).mono ?_; rintro e w' ⟨rfl, hc7⟩; clear hc6
  go_wp2_with fail
  refine (crash_c 1 1 true 0 3 (by decide) (by decide) hc7).mono ?_; rintro e w' ⟨rfl, hc8⟩; clear hc7
  go_wp2_with fail
  refine (crash_c 3 1 false 0 2 (by decide) (by decide) hc8).mono ?_; rintro e w' ⟨rfl, hc9⟩; clear hc8
  go_wp2_with fail
  refine (write_c 2 1 1 9 2 1 (by decide) (by decide) hc9).mono ?_; rintro e w' ⟨rfl, hc10⟩; clear hc9
  go_wp2_with fail
  refine (down_c false (by decide) hc10).mono ?_; rintro e w' ⟨rfl, rfl⟩
  go_wp2_with fail
  refine (write_c 2 1 2 270 4 1 (by decide) (by decide) hc10).mono ?_; rintro e w' ⟨rfl, hc11⟩; clear hc10
  go_wp2_with fail
  refine (read_c hc11).mono ?_; rintro e w' ⟨rfl, rfl⟩
  go_wp2_with fail
  refine (write_c 4 1 3 80 4 1 (by decide) (by decide) hc11).mono ?_; rintro e w' ⟨rfl, hc12⟩; clear hc11
  go_wp2_with fail
  refine (crash_c 4 1 true 80 4 (by decide) (by decide) hc12).mono ?_; rintro e w' ⟨rfl, hc13⟩; clear hc12
  go_wp2_with fail
  refine (start_c 4 1  0 1 (by decide) (by decide) hc13).mono ?_; rintro e w' ⟨rfl, hc14⟩; clear hc13
  go_wp2_with fail
  refine (start_c 1 1  80 1 (by decide) (by decide) hc14).mono ?_; rintro e w' ⟨rfl, hc15⟩; clear hc14
  go_wp2_with fail
  refine (write_c 1 1 9007199254740991 0 1 9007199254740991 (by decide) (by decide) hc15).mono ?_; rintro e w' ⟨rfl, hc16⟩; clear hc15
  go_wp2_with fail
  refine (write_c 1 9007199254740991 9007199254740991 9 1 9007199254740991 (by decide) (by decide) hc16).mono ?_; rintro e w' ⟨rfl, hc17⟩; clear hc16
  go_wp2_with fail
  refine (read_c hc17).mono ?_; rintro e w' ⟨rfl, rfl⟩
  go_wp2_with fail
  refine (new_c w _ hc17.1).mono ?_; rintro e w' ⟨rfl, hd0⟩; clear hc17
  go_wp2_with fail
  refine (crash_c 1 0 true 0 3 (by decide) (by decide) hd0).mono ?_; rintro e w' ⟨rfl, hd1⟩; clear hd0
  go_wp2_with fail
  refine (write_c 3 0 4 270 4 4 (by decide) (by decide) hd1).mono ?_; rintro e w' ⟨rfl, hd2⟩; clear hd1
  go_wp2_with fail
  refine (start_c 4 4  0 1 (by decide) (by decide) hd2).mono ?_; rintro e w' ⟨rfl, hd3⟩; clear hd2
  go_wp2_with fail
  refine (write_c 1 4 5 0 1 5 (by decide) (by decide) hd3).mono ?_; rintro e w' ⟨rfl, hd4⟩; clear hd3
  go_wp2_with fail
  refine (read_c hd4).mono ?_; rintro e w' ⟨rfl, rfl⟩
  have hn : NoneAt w (.pointer none) _ := ⟨hd4.1, .inl rfl⟩
  clear hd4
  go_wp2_with fail
  go_loopw [5, 6] (fun v i wr => ∃ k : Nat, k ≤ 2 ∧ i = .int .i64 k ∧ NoneAt w v wr) (fun _ i _ => 2 - (intOf i).toNat)
  case atStart => exact ⟨0, by omega, rfl, hn⟩
  case round =>
    clear hn
    obtain ⟨k, hk, rfl, hn⟩ := hrel
    by_cases hlt : k < 2
    · go_wp2_with fail
      refine (write_n hn).mono ?_; rintro e w' ⟨rfl, hn1⟩; clear hn
      go_wp2_with fail
      refine (crash_n hn1).mono ?_; rintro e w' ⟨rfl, hn2⟩; clear hn1
      go_wp2_with fail
      refine (start_n hn2).mono ?_; rintro e w' ⟨rfl, hn3⟩; clear hn2
      go_wp2_with fail
      refine (read_n hn3).mono ?_; rintro e w' ⟨rfl, rfl⟩
      go_wp2_with fail
      refine (down_n hn3).mono ?_; rintro e w' ⟨rfl, rfl⟩
      go_wp2_with fail
      go_roundw
      case rel => exact ⟨k + 1, by omega, by go_num, hn3.1.alloc hn3.1.size _, .inr ⟨_, rfl, hn3.1.size, Blk.new _ _ _⟩⟩
      case measure => simp [intOf]; omega
    · go_wp2_with fail
      have hb := hn.1
      clear hn
      refine (works_any _).mono ?_; rintro e w' ⟨rfl, hb1⟩
      go_wp2_with fail
      go_ret
      exact ⟨rfl, hb.trans (hb1.mono hb.size)⟩

end Go.Proofs.Ytklpgegooakfjaa
