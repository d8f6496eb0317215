/-
  begun makes a space, a source over it and the reference's; no condition.
-/
import Derived.Test.YtcjfeknkjjphfaaLay
import Derived.BigRegion
import Derived.RegionTactic
namespace Go.Proofs.Ytcjfeknkjjphfaa
open Go.RowKit

def zeros : Array Value := madeCells #[.int .u8 0] 16384

theorem mk_zeros (W : World) : (Instr.makeSlice 25 (.int .i64 16384) (.int .i64 16384)).run Try.prog W = .ok (.slice (some ⟨W.heap.size, 0, none⟩) 16384 16384) (W.alloc (.cells zeros 5)) :=
  run_make_row' (P := Try.prog) 25 5 (.int .u8 0) 1 Try.underlying25 info5 rfl .i64 .i64 16384 (by omega) (by omega) W
theorem row_zeros (W : World) : (W.alloc (.cells zeros 5)).rowIs W.heap.size 5 16384 (bts fun _ => 0) := World.rowIs_made W (.int .u8 0) 16384 5

set_option maxHeartbeats 1000000 in
theorem new_space (w : World) :
    Calls Try.prog 17 #[.int .i64 4096, .int .i64 0] w fun e w' => ∃ bs bb, e = .returned (.tuple #[ptr bs, .int .i64 0]) ∧ Blk w' bs 68 (spc bb) ∧ w'.rowIs bb 5 16384 (bts fun _ => 0) ∧ w.heap.size ≤ bs ∧ w.heap.size ≤ bb ∧ Below w.heap.size w w' := by
  have hmk := mk_zeros
  go_enter Try.func17, Try.ntmps17
  go_wp2
  go_ret2
  have hk := Blk.new (w.alloc (.cells zeros 5)) 68 (spc w.heap.size)
  rw [World.size_alloc] at hk
  exact ⟨w.heap.size + 1, w.heap.size, rfl, hk, (row_zeros w).alloc _, by omega, by omega, ((Below.refl _ w).alloc (Nat.le_refl _) _).alloc (by simp) _⟩

/-- the reference's space -/
def spq (bb : Nat) : Array Value := #[.slice (some ⟨bb, 0, none⟩) 16384 16384, .int .i64 77824, .int .i64 81920]

set_option maxHeartbeats 1000000 in
theorem new_ref (w : World) :
    Calls Try.prog 18 #[.int .i64 4096, .int .i64 0] w fun e w' => ∃ bs bb, e = .returned (.tuple #[ptr bs, .int .i64 0]) ∧ Blk w' bs 70 (spq bb) ∧ w'.rowIs bb 5 16384 (bts fun _ => 0) ∧ w.heap.size ≤ bs ∧ w.heap.size ≤ bb ∧ Below w.heap.size w w' := by
  have hmk := mk_zeros
  go_enter Try.func18, Try.ntmps18
  go_wp2
  go_ret2
  have hk := Blk.new (w.alloc (.cells zeros 5)) 70 (spq w.heap.size)
  rw [World.size_alloc] at hk
  exact ⟨w.heap.size + 1, w.heap.size, rfl, hk, (row_zeros w).alloc _, by omega, by omega, ((Below.refl _ w).alloc (Nat.le_refl _) _).alloc (by simp) _⟩

set_option maxHeartbeats 1000000 in
theorem ref_reach (bs bb : Nat) (w : World) (hs : Blk w bs 70 (spq bb)) :
    Calls Try.prog 39 #[ptr bs, .int .i64 65552, .int .i64 8, .int .i64 8, .bool false] w fun e w' => e = .returned (.int .i64 0) ∧ w = w' := by
  have hc0 : w.cell? ⟨bs, 0, none⟩ = some (.slice (some ⟨bb, 0, none⟩) 16384 16384) := hs.cell 0
  go_enter Try.func39, Try.ntmps39
  go_wp2
  go_ret
  exact ⟨rfl, rfl⟩

set_option maxHeartbeats 2000000 in
theorem ref_set (bs bb : Nat) (f : Nat → Value) (w : World) (hs : Blk w bs 70 (spq bb)) (hb : w.rowIs bb 5 16384 f) :
    Calls Try.prog 40 #[ptr bs, .int .i64 65552, .int .i64 8, .int .u64 0] w fun e w' => e = .returned (.tuple #[]) ∧ w.grownBy w' (some bb) := by
  have hne1 : bs ≠ bb := hs.ne_row hb (by decide)
  go_enter Try.func40, Try.ntmps40
  go_wp2
  go_loopw [8] (fun i wr => ∃ k : Nat, k ≤ 8 ∧ i = .int .i64 k ∧ (∃ f, wr.rowIs bb 5 16384 f) ∧ w.grownBy wr (some bb)) (fun i _ => 8 - (intOf i).toNat)
  case atStart => exact ⟨0, by omega, rfl, ⟨f, hb⟩, World.grownBy.refl _ _⟩
  case round =>
    obtain ⟨k, hk, rfl, ⟨g, hr⟩, hg⟩ := hrel
    by_cases hlt : k < 8
    · have hck := hr.cell (i := 16 + k) (by omega)
      have hfk := hr.frozen (16 + k)
      obtain ⟨v, hv⟩ : ∃ v, v = g (16 + k) := ⟨_, rfl⟩
      rw [← hv] at hck
      clear hv
      have hc0 : wr.cell? ⟨bs, 0, none⟩ = some (.slice (some ⟨bb, 0, none⟩) 16384 16384) := (hs.grown hg (by simpa using hne1)).cell 0
      go_wp2_with fail
      go_region
      have hr' := (hr.set (16 + k) (.int .u8 0)).drew
      have hg' : w.grownBy (wr.setCell ⟨bb, 16 + k, none⟩ (.int .u8 0)).drew (some bb) := by
        have := only_setCell hg (p := ⟨bb, 16 + k, none⟩) (.inl rfl) (.int .u8 0)
        exact ⟨this.os, this.tape, this.output, this.size, this.block⟩
      obtain ⟨W, hW⟩ : ∃ W, W = (wr.setCell ⟨bb, 16 + k, none⟩ (.int .u8 0)).drew := ⟨_, rfl⟩
      rw [← hW] at hr' hg' ⊢
      clear hW hck hfk hc0
      go_wp2
      go_roundw
      case rel => exact ⟨k + 1, by omega, by go_num, ⟨_, hr'⟩, hg'⟩
      case measure => simp [intOf]; omega
    · obtain rfl : k = 8 := by omega
      go_wp2
      go_end0
      exact ⟨rfl, hg⟩

set_option maxHeartbeats 1000000 in
theorem ref_system (bs bb : Nat) (f : Nat → Value) (w : World) (hs : Blk w bs 70 (spq bb)) (hb : w.rowIs bb 5 16384 f) :
    Calls Try.prog 30 #[ptr bs, .int .i64 65552, .int .i64 0] w fun e w' => e = .returned (.tuple #[]) ∧ w.grownBy w' (some bb) := by
  go_enter Try.func30, Try.ntmps30
  go_wp2_with fail
  refine (ref_reach bs bb w hs).mono ?_
  rintro e w' ⟨rfl, rfl⟩
  go_wp2_with fail
  refine (ref_set bs bb f w hs hb).mono ?_
  rintro e W1 ⟨rfl, hg⟩
  go_wp2
  go_end0
  exact ⟨rfl, hg⟩

set_option maxHeartbeats 1000000 in
theorem source_new (bs bb : Nat) (w : World) (hs : Blk w bs 68 (spc bb)) (hb : w.rowIs bb 5 16384 (bts fun _ => 0)) :
    Calls Try.prog 12 #[ptr bs] w fun e w' => ∃ bc m, e = .returned (ptr bc) ∧ w.heap.size ≤ bc ∧ Src w' bs bb bc 0 0 0 0 m ∧ w.grownBy w' (some bb) := by
  go_enter Try.func12, Try.ntmps12
  go_wp2_with fail
  refine (system_any bs bb 0 _ w hs hb (by omega) (by omega)).mono ?_
  rintro e W1 ⟨rfl, hr, hg⟩
  have hs1 : Blk W1 bs 68 (spc bb) := hs.grown hg (by simpa using hs.ne_row hb (by decide))
  go_wp2
  go_ret
  refine ⟨W1.heap.size, _, rfl, hg.size, ⟨hs1.alloc _, hr.alloc _, Blk.new W1 60 _, fun i hi => ?_, by omega⟩, only_alloc hg _⟩
  simp only [putIn]
  rw [if_pos (by omega), show 16 + i - 16 = i from by omega]
  rfl

set_option maxHeartbeats 1000000 in
theorem ref_new (bs bb : Nat) (f : Nat → Value) (w : World) (hs : Blk w bs 70 (spq bb)) (hb : w.rowIs bb 5 16384 f) :
    Calls Try.prog 19 #[ptr bs] w fun e w' => ∃ bc, e = .returned (ptr bc) ∧ w.grownBy w' (some bb) := by
  go_enter Try.func19, Try.ntmps19
  go_wp2_with fail
  have hB : Below w.heap.size w (w.alloc (.cells #[ptr bs, .int .i64 0, .int .i64 0, .int .i64 0, .int .i64 0, .int .i64 0] 73)) := (Below.refl _ w).alloc (Nat.le_refl _) _
  refine (ref_system bs bb f _ (hs.alloc _) (hb.alloc _)).mono ?_
  rintro e W1 ⟨rfl, hg⟩
  go_wp2
  go_ret
  exact ⟨_, rfl, only_trans (only_of_below hB _) hg⟩

/-- what begun hands back -/
structure Begun (B : Nat) (w : World) (bx bs bb bc q r : Nat) (m : Nat → Int) : Prop where
  x : Blk w bx 33 #[ptr bs, ptr bc, ptr q, ptr r]
  s : Src w bs bb bc 0 0 0 0 m
  lx : B ≤ bx
  ls : B ≤ bs
  lb : B ≤ bb
  lc : B ≤ bc

set_option maxHeartbeats 1000000 in
theorem begun_any (w : World) :
    Calls Try.prog 8 #[] w fun e w' => ∃ bx bs bb bc q r m, e = .returned (ptr bx) ∧ Begun w.heap.size w' bx bs bb bc q r m ∧ Below w.heap.size w w' := by
  go_enter Try.func8, Try.ntmps8
  go_wp2_with fail
  refine (new_space w).mono ?_
  rintro e W1 ⟨bs, bb, rfl, hs1, hr1, ls, lb, hB1⟩
  go_wp2_with fail
  refine (new_ref W1).mono ?_
  rintro e W2 ⟨qs, qb, rfl, hs2, hr2, lqs, lqb, hB2⟩
  go_wp2_with fail
  have hs1' := hs1.below hB2 hs1.lt
  have hr1' := row_below hr1 hB2 hr1.lt
  refine (source_new bs bb W2 hs1' hr1').mono ?_
  rintro e W3 ⟨bc, m, rfl, lc, hsrc, hg3⟩
  go_wp2_with fail
  have lt1 := hr1.lt
  have hne1 : qs ≠ bb := by have := hs1.lt; omega
  have hne2 : qb ≠ bb := by omega
  refine (ref_new qs qb (bts fun _ => 0) W3 (hs2.grown hg3 (by simpa using hne1)) (row_grown hr2 hg3 (by simpa using hne2))).mono ?_
  rintro e W4 ⟨rc, rfl, hg4⟩
  have hqb : qb < W2.heap.size := hr2.lt
  have hbs : bs < W1.heap.size := hs1.lt
  have hsrc4 : Src W4 bs bb bc 0 0 0 0 m :=
    ⟨hsrc.s.grown hg4 (by simp; omega), row_grown hsrc.b hg4 (by simp; omega), hsrc.c.grown hg4 (by simp; omega), hsrc.tin, hsrc.tl⟩
  have hB4 : Below w.heap.size w W4 := by
    have b2 := hB1.trans (hB2.mono hB1.size)
    have z1 := hB1.size
    have z2 := hB2.size
    exact (b2.grown hg3 b2.size (fun k e => by cases e; exact lb)).grown hg4 (Nat.le_trans b2.size hg3.size) (fun k e => by cases e; omega)
  go_wp2
  go_ret
  have z := hB4.size
  have z1 := hB1.size
  have z2 := hB2.size
  exact ⟨W4.heap.size, bs, bb, bc, qs, rc, m, rfl, ⟨Blk.new W4 33 _, ⟨hsrc4.s.alloc _, hsrc4.b.alloc _, hsrc4.c.alloc _, hsrc4.tin, hsrc4.tl⟩, z, ls, lb, by omega⟩, hB4.alloc z _⟩
end Go.Proofs.Ytcjfeknkjjphfaa
