/-
  The walk of SourceNothing: it returns true, and writes nothing that was there; no condition.
-/
import Derived.Test.YtcjfeknkjjphfaaAwake
namespace Go.Proofs.Ytcjfeknkjjphfaa
open Go.RowKit

/-- a source that is none, or of no space -/
def NoneAt (w : World) (c : Value) : Prop := c = .pointer none ∨ ∃ bc, c = ptr bc ∧ w.cell? ⟨bc, 0, none⟩ = some (.pointer none)
theorem NoneAt.below {w w' : World} {c : Value} (h : NoneAt w c) (hB : Below w.heap.size w w') : NoneAt w' c := by
  rcases h with rfl | ⟨bc, rfl, hc⟩
  · exact .inl rfl
  · exact .inr ⟨bc, rfl, cell_later hB hc⟩

set_option maxHeartbeats 400000 in
theorem none_true (c : Value) (w : World) (h : NoneAt w c) :
    Calls Try.prog 20 #[c] w fun e w' => e = .returned (.bool true) ∧ w = w' := by
  rcases h with rfl | ⟨bc, rfl, hc⟩
  · go_enter Try.func20, Try.ntmps20
    go_wp2
    go_ret
    exact ⟨rfl, rfl⟩
  · go_enter Try.func20, Try.ntmps20
    go_wp2
    go_ret
    exact ⟨rfl, rfl⟩

set_option maxHeartbeats 400000 in
theorem parse_none (c d : Value) (w : World) (h : NoneAt w c) :
    Calls Try.prog 13 #[c, d] w fun e w' => e = .returned (.tuple #[.int .i64 0, .int .i64 0]) ∧ w = w' := by
  go_enter Try.func13, Try.ntmps13
  go_wp2_with (go_at_call 20; refine (none_true _ _ h).mono ?_; rintro e w' ⟨rfl, rfl⟩)
  go_ret2
  exact ⟨rfl, rfl⟩

set_option maxHeartbeats 400000 in
theorem skip_none (c d : Value) (w : World) (h : NoneAt w c) :
    Calls Try.prog 24 #[c, d] w fun e w' => e = .returned (.tuple #[.int .i64 0, .int .i64 0]) ∧ w = w' := by
  go_enter Try.func24, Try.ntmps24
  go_wp2_with (go_at_call 20; refine (none_true _ _ h).mono ?_; rintro e w' ⟨rfl, rfl⟩)
  go_ret2
  exact ⟨rfl, rfl⟩

set_option maxHeartbeats 400000 in
theorem name_none (c : Value) (w : World) (h : NoneAt w c) :
    Calls Try.prog 10 #[c] w fun e w' => e = .returned (.tuple #[.int .i64 0, .int .i64 0]) ∧ w = w' := by
  go_enter Try.func10, Try.ntmps10
  go_wp2_with (go_at_call 24; refine (skip_none _ _ _ h).mono ?_; rintro e w' ⟨rfl, rfl⟩)
  go_ret2
  exact ⟨rfl, rfl⟩

set_option maxHeartbeats 400000 in
theorem left_none (c : Value) (w : World) (h : NoneAt w c) :
    Calls Try.prog 14 #[c] w fun e w' => e = .returned (.slice none 0 0) ∧ w = w' := by
  go_enter Try.func14, Try.ntmps14
  go_wp2_with (go_at_call 20; refine (none_true _ _ h).mono ?_; rintro e w' ⟨rfl, rfl⟩)
  go_ret
  exact ⟨rfl, rfl⟩

set_option maxHeartbeats 400000 in
theorem lay_none (c b : Value) (w : World) (h : NoneAt w c) :
    Calls Try.prog 9 #[c, b] w fun e w' => e = .returned (.int .i64 0) ∧ w = w' := by
  go_enter Try.func9, Try.ntmps9
  go_wp2_with (go_at_call 20; refine (none_true _ _ h).mono ?_; rintro e w' ⟨rfl, rfl⟩)
  go_ret
  exact ⟨rfl, rfl⟩

def zero5 : Value := .agg #[.int .i64 0, .int .i64 0, .int .i64 0, .int .i64 0, .int .i64 0]

set_option maxHeartbeats 400000 in
theorem now_none (c : Value) (w : World) (h : NoneAt w c) :
    Calls Try.prog 15 #[c] w fun e w' => e = .returned zero5 ∧ Below w.heap.size w w' := by
  go_enter Try.func15, Try.ntmps15
  go_wp2_with fail
  refine (none_true _ _ (h.below ((Below.refl _ w).alloc (Nat.le_refl _) _))).mono ?_
  rintro e w' ⟨rfl, rfl⟩
  go_wp2
  refine bodyPost_ret (v := zero5) ?_ rfl ⟨rfl, (Below.refl _ w).alloc (Nat.le_refl _) _⟩
  simp [results, Try.results15, go_sem, zero5]

set_option maxHeartbeats 400000 in
theorem reach_nil (rs : Value) (w : World) :
    Calls Try.prog 25 #[.pointer none, .int .i64 65552, .int .i64 8, rs] w fun e w' => e = .returned (.tuple #[.slice none 0 0, .int .i64 (-9)]) ∧ w = w' := by
  go_enter Try.func25, Try.ntmps25
  go_wp2
  go_ret2
  exact ⟨rfl, rfl⟩

set_option maxHeartbeats 400000 in
theorem system_nil (v : Int) (w : World) :
    Calls Try.prog 23 #[.pointer none, .int .i64 65552, .int .i64 v] w fun e w' => e = .returned (.tuple #[]) ∧ Below w.heap.size w w' := by
  go_enter Try.func23, Try.ntmps23
  go_wp2_with (go_at_call 32; refine (aligned_any _ _).mono ?_; rintro e w' ⟨rfl, rfl⟩)
  refine (reach_nil _ _).mono ?_
  rintro e w' ⟨rfl, rfl⟩
  go_wp2
  refine wp_loop_rounds 1 ?_
  rw [rounds_succ]
  go_wp2
  go_end0
  exact ⟨rfl, ((Below.refl _ w).alloc (Nat.le_refl _) _).alloc (by simp) _⟩

set_option maxHeartbeats 400000 in
theorem new_nil (w : World) :
    Calls Try.prog 12 #[.pointer none] w fun e w' => ∃ bc, e = .returned (ptr bc) ∧ w'.cell? ⟨bc, 0, none⟩ = some (.pointer none) ∧ Below w.heap.size w w' := by
  go_enter Try.func12, Try.ntmps12
  go_wp2_with fail
  refine (system_nil 0 w).mono ?_
  rintro e W1 ⟨rfl, hB1⟩
  go_wp2
  go_ret
  exact ⟨W1.heap.size, rfl, by go_simp, hB1.alloc hB1.size _⟩

set_option maxRecDepth 100000 in
set_option maxHeartbeats 4000000 in
theorem nothing_any (n : Int) (b : Value) (w : World) :
    Calls Try.prog 4 #[.int .i64 n, b] w fun e w' => e = .returned (.bool true) ∧ Below w.heap.size w w' := by
  go_enter Try.func4, Try.ntmps4
  go_wp2_with fail
  refine (new_nil w).mono ?_
  rintro e W1 ⟨bc, rfl, hc1, hB1⟩
  go_wp2_with fail
  have hA := Blk.new W1 29 #[.pointer none, ptr bc]
  obtain ⟨W2, hW2⟩ : ∃ W2, W2 = W1.alloc (.cells #[.pointer none, ptr bc] 29) := ⟨_, rfl⟩
  rw [← hW2] at hA ⊢
  have hB2 : Below W1.heap.size W1 W2 := by rw [hW2]; exact (Below.refl _ W1).alloc (Nat.le_refl _) _
  clear hW2
  have hc2 := cell_later hB2 hc1
  have hBw : Below w.heap.size w W2 := hB1.trans (hB2.mono hB1.size)
  obtain ⟨A, hAe⟩ : ∃ A, A = W1.heap.size := ⟨_, rfl⟩
  rw [← hAe] at hA ⊢
  clear hAe hc1 hB2 hB1
  go_loopw [7] (fun i wr => ∃ k : Nat, k ≤ 2 ∧ i = .int .i64 k ∧ Below w.heap.size w wr ∧ Blk wr A 29 #[.pointer none, ptr bc] ∧ wr.cell? ⟨bc, 0, none⟩ = some (.pointer none)) (fun i _ => 2 - (intOf i).toNat)
  case atStart => exact ⟨0, by omega, rfl, hBw, hA, hc2⟩
  case round =>
    obtain ⟨k, hk, rfl, hBr, hAr, hcr⟩ := hrel
    by_cases hlt : k < 2
    · obtain ⟨c, hc, hn⟩ : ∃ c, wr.cell? ⟨A, k, none⟩ = some c ∧ NoneAt wr c := by
        match k, hlt with
        | 0, _ => exact ⟨_, hAr.cell 0, .inl rfl⟩
        | 1, _ => exact ⟨_, hAr.cell 1, .inr ⟨bc, rfl, hcr⟩⟩
      have HB := Lib.hid hBr
      have HA := Lib.hid hAr
      have HC := Lib.hid hcr
      clear hBr hAr hcr hc2
      go_wp2_with (first | (go_at_call 13; refine (parse_none _ _ _ hn).mono ?_; rintro e w' ⟨rfl, rfl⟩) | (go_at_call 10; refine (name_none _ _ hn).mono ?_; rintro e w' ⟨rfl, rfl⟩) | (go_at_call 14; refine (left_none _ _ hn).mono ?_; rintro e w' ⟨rfl, rfl⟩))
      refine (now_none _ _ hn).mono ?_
      rintro e W3 ⟨rfl, hB3⟩
      unfold zero5
      go_wp2
      go_roundw
      case rel => exact ⟨k + 1, by omega, by go_num, HB.out.trans (hB3.mono HB.out.size), HA.out.below hB3 HA.out.lt, cell_later hB3 HC.out⟩
      case measure => simp [intOf]; omega
    · obtain rfl : k = 2 := by omega
      go_wp2_with fail
      refine (lay_none _ _ _ (.inl rfl)).mono ?_
      rintro e w' ⟨rfl, rfl⟩
      go_wp2_with fail
      refine (awake_any wr).mono ?_
      rintro e W3 ⟨rfl, hB3⟩
      go_wp2
      go_ret
      exact ⟨rfl, hBr.trans (hB3.mono hBr.size)⟩
end Go.Proofs.Ytcjfeknkjjphfaa
