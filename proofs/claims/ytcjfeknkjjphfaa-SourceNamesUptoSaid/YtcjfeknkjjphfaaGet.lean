/-
  Space.get at ToIn gathers the number whose bytes lie there, through the iterator slices.Backward; at numbers up to 2000000.
-/
import Derived.RangeFuncNested
import Derived.RangeFuncBound
import Derived.RangeFuncCalls
import Derived.RangeFuncLeaves
import Derived.RangeFuncBox
import Derived.Shelf.Abstract
import Derived.OwnWalkIn
import Derived.TacticsInMore
import Derived.LoopNIn
import Derived.LoopIn
import Derived.Test.YtcjfeknkjjphfaaSys
namespace Go.Proofs.Ytcjfeknkjjphfaa
open Go.RowKit Go.Shelf
attribute [local go_sem] Oper.semAt_some

/-- the indices that have come when k rounds are over: n - 1, n - 2, .. -/
def down (n k : Nat) : List Nat := (List.range k).map fun j => n - 1 - j
theorem down_succ (n k : Nat) : down n (k + 1) = down n k ++ [n - 1 - k] := by simp [down, List.range_succ]
theorem down_length (n k : Nat) : (down n k).length = k := by simp [down]

/-- two blocks lie as they lay: what the iterator reads between two rounds -/
def Same2 (b Bs : Nat) (W W' : World) : Prop := W'.heap[b]? = W.heap[b]? ∧ W'.heap[Bs]? = W.heap[Bs]?
theorem Same2.refl (b Bs : Nat) (W : World) : Same2 b Bs W W := ⟨rfl, rfl⟩
theorem Same2.trans {b Bs : Nat} {A B C : World} (h : Same2 b Bs A B) (k : Same2 b Bs B C) : Same2 b Bs A C := ⟨k.1.trans h.1, k.2.trans h.2⟩
theorem same2_b {b Bs : Nat} {w : World} (hb : b < w.heap.size) (hBs : Bs < w.heap.size) (W : World) (l : Nat) (o o' : Obj) (hl : w.heap.size ≤ l) (_ : W.heap[l]? = some o) (_ : o.isCells = false) (_ : o.isWalk = false) : Same2 b Bs W (W.putObj l o') :=
  ⟨World.putObj_heap_other (by omega), World.putObj_heap_other (by omega)⟩
theorem Same2.set {b Bs : Nat} (W : World) {p : Addr} (h1 : b ≠ p.block) (h2 : Bs ≠ p.block) (u : Value) : Same2 b Bs W (W.setCell p u) := ⟨Below.heap_setCell W p u b h1, Below.heap_setCell W p u Bs h2⟩

set_option maxRecDepth 100000 in
set_option maxHeartbeats 2000000 in
theorem back1_in (F : Fence) (n : Nat) (h47 : F.fn 47) (hro : F.round = none) (hn : 1 ≤ n) (l Bs b off len cap : Nat) (f : Nat → Int) (hreach : len ≤ 1000000) (J Jx : List Nat → World → Prop)
    (hY : ∀ pre (x : Nat) W, J pre W → pre.length < len → YieldAt F (n - 1) Try.prog l #[.int .i64 (x : Int), .int .u8 (f x)] W fun e W' =>
      (e = .returned (.bool true) ∧ J (pre ++ [x]) W' ∧ Same2 b Bs W W') ∨ (e = .returned (.bool false) ∧ Jx (pre ++ [x]) W'))
    (W : World) (hBs : W.cell? ⟨Bs, 0, none⟩ = some (.slice (some ⟨b, off, none⟩) len cap)) (hc : ∀ j, j < len → W.cell? ⟨b, off + j, none⟩ = some (.int .u8 (f j))) (h0 : J [] W) :
    CallsIn F n Try.prog 47 #[.func (.yield l) #[] #[], .pointer (some ⟨Bs, 0, none⟩)] W fun e W' => (∃ v, e = .returned v) ∧
      ((∃ ys, ys = down len len ∧ J ys W') ∨ (∃ pre, (∃ k, k ≤ len ∧ pre = down len k) ∧ Jx pre W')) := by
  refine callsIn_of_wp Try.func47 rfl h47 ?_ hro
  simp only [Try.ntmps47, List.size_toArray, List.length_cons, List.length_nil, Nat.reduceAdd, Nat.reduceSub, Array.replicate_succ, Array.replicate_zero, List.push_toArray, List.append_toArray, List.nil_append, List.cons_append]
  gi_wp2
  gi_loopw [3] (fun i wr => ∃ k : Nat, k ≤ len ∧ i = .int .i64 ((len : Int) - 1 - k) ∧ J (down len k) wr ∧ Same2 b Bs W wr)
    (fun i _ => ((intOf i) + 1).toNat)
  case atStart => exact ⟨0, Nat.zero_le _, by simp, h0, Same2.refl _ _ _⟩
  case round =>
    obtain ⟨k, hk, rfl, hJs, hnx⟩ := hrel
    have hBx : wr.cell? ⟨Bs, 0, none⟩ = some (.slice (some ⟨b, off, none⟩) len cap) := (World.cell?_of_block (w := W) hnx.2).trans hBs
    by_cases hlt : k < len
    · have hcx : wr.cell? ⟨b, off + (len - 1 - k), none⟩ = some (.int .u8 (f (len - 1 - k))) := (World.cell?_of_block (w := W) hnx.1).trans (hc _ (by omega))
      obtain ⟨fn, tmps, assign, body, hy, hR⟩ := hY _ (len - 1 - k) wr hJs (by rw [down_length]; exact hlt)
      obtain ⟨i, hi⟩ : ∃ i : Nat, i = len - 1 - k := ⟨_, rfl⟩
      have hii : (len : Int) - 1 - k = (i : Int) := by omega
      rw [← hi] at hcx hy hR
      have hil : i < len := by omega
      have Hi := Lib.hid hi
      have Hlt := Lib.hid hlt
      rw [hii]
      clear hii hi hlt
      gi_wp2
      refine hR.mono ?_
      rintro e W3 (⟨rfl, hJ3, hk3⟩ | ⟨rfl, hJx3⟩)
      · gi_wp2
        go_roundw
        case rel =>
          have hi := Hi.out
          have hlt := Hlt.out
          exact ⟨k + 1, by omega, by rw [show (len : Int) - 1 - ((k + 1 : Nat) : Int) = (i : Int) - 1 from by omega], by rw [down_succ, ← hi]; exact hJ3, hnx.trans hk3⟩
        case measure => simp [intOf]
      · gi_wp2
        refine bodyPost_ret (results_none rfl _ _ _) rfl ?_
        have hi := Hi.out
        have hlt := Hlt.out
        exact ⟨⟨_, rfl⟩, .inr ⟨_, ⟨k + 1, by omega, by rw [down_succ, ← hi]⟩, hJx3⟩⟩
    · obtain rfl : k = len := by omega
      gi_wp2
      go_end0
      exact ⟨⟨_, rfl⟩, .inl ⟨_, rfl, hJs⟩⟩

set_option maxHeartbeats 1000000 in
theorem back_in (F : Fence) (n : Nat) (h46 : F.fn 46) (hro : F.round = none) (a : Option Addr) (len cap : Nat) (w : World) :
    CallsIn F n Try.prog 46 #[.slice a len cap] w fun e w' => e = .returned (.func (.func 47) #[] #[.pointer (some ⟨w.heap.size, 0, none⟩)]) ∧ w' = w.alloc (.cells #[.slice a len cap] 25) := by
  refine callsIn_of_wp Try.func46 rfl h46 ?_ hro
  simp only [Try.ntmps46, List.size_toArray, List.length_cons, List.length_nil, Nat.reduceAdd, Nat.reduceSub, Array.replicate_succ, Array.replicate_zero, List.push_toArray, List.append_toArray, List.nil_append, List.cons_append]
  gi_wp2
  go_ret
  exact ⟨rfl, rfl⟩

theorem back_stops (F : Fence) (n : Nat) (h47 : F.fn 47) (hro : F.round = none) (hn : 1 ≤ n) (Bs b off len cap : Nat) (f : Nat → Int) (hreach : len ≤ 1000000) (w : World) (hb : b < w.heap.size) (hBs : Bs < w.heap.size)
    (hc : w.cell? ⟨Bs, 0, none⟩ = some (.slice (some ⟨b, off, none⟩) len cap)) (hI : ∀ j, j < len → w.cell? ⟨b, off + j, none⟩ = some (.int .u8 (f j))) :
    SeqStopsK F n Try.prog 47 #[.pointer (some ⟨Bs, 0, none⟩)] (fun x : Nat => #[Value.int .i64 (x : Int), Value.int .u8 (f x)]) (Same2 b Bs) (fun ys => ys = down len len)
      (fun pre => ∃ k, k ≤ len ∧ pre = down len k) len w := fun l J Jx W hW _ _ hY h0 =>
  back1_in F n h47 hro hn l Bs b off len cap f hreach J Jx hY W ((hW.cell (p := ⟨Bs, 0, none⟩) hBs).trans hc) (fun j hj => (hW.cell (p := ⟨b, off + j, none⟩) hb).trans (hI j hj)) h0

theorem u64_wrap_nat (a : Nat) : IntKind.u64.wrap (a : Int) = ((a % 18446744073709551616 : Nat) : Int) := by
  have h : IntKind.u64.wrap (a : Int) = (a : Int) % 18446744073709551616 := by simp [IntKind.wrap, IntKind.bits, IntKind.signed]
  rw [h]; omega
theorem or_step (A b : Nat) (hb : b < 256) : bits .or .u64 (IntKind.u64.wrap ((A : Int) * 256)) (IntKind.u64.wrap (b : Int)) = (((A * 256 + b) % 18446744073709551616 : Nat) : Int) := by
  have e : ((A : Int) * 256) = ((A * 256 : Nat) : Int) := by omega
  rw [e, u64_wrap_nat, u64_wrap_nat, bits_or_u64_nat _ _ (by omega) (by omega)]
  congr 1
  have h1 : A * 256 % 18446744073709551616 = (A % 72057594037927936) <<< 8 := by rw [Nat.shiftLeft_eq]; omega
  rw [h1, Nat.mod_eq_of_lt (a := b) (by omega), ← Nat.shiftLeft_add_eq_or_of_lt (by omega), Nat.shiftLeft_eq]
  omega

/-- what the rounds gather: u = u<<8 | byte -/
def acc (t : Nat) (l : List Nat) : Nat := l.foldl (fun u i => (u * 256 + t / 256 ^ i % 256) % 18446744073709551616) 0
theorem acc_snoc (t : Nat) (l : List Nat) (i : Nat) : acc t (l ++ [i]) = (acc t l * 256 + t / 256 ^ i % 256) % 18446744073709551616 := by simp [acc]
theorem acc_all (t : Nat) (h : t ≤ 2000000) : acc t (down 8 8) = t := by
  have e : down 8 8 = [7, 6, 5, 4, 3, 2, 1, 0] := by decide
  rw [e]
  simp only [acc, List.foldl]
  omega

set_option maxRecDepth 100000 in
set_option maxHeartbeats 2000000 in
theorem get_tin (bs bb t : Nat) (m : Nat → Int) (w : World) (hs : Blk w bs 68 (spc bb)) (hb : w.rowIs bb 5 16384 (bts m)) (ht : ∀ i, i < 8 → m (16 + i) = tb t i) (ht2 : t ≤ 2000000) :
    Calls Try.prog 43 #[ptr bs, .int .i64 65552, .int .i64 8] w fun e w' => e = .returned (.tuple #[.int .i64 (t : Int), .int .i64 0]) ∧ Below w.heap.size w w' := by
  refine (callsIn_wide (n := 4)).1 ?_
  refine callsIn_of_wp_marks Try.func43 rfl trivial ?_ rfl
  simp only [Try.ntmps43, List.size_toArray, List.length_cons, List.length_nil, Nat.reduceAdd, Nat.reduceSub, Array.replicate_succ, Array.replicate_zero, List.push_toArray, List.append_toArray, List.nil_append, List.cons_append]
  gi_wp2_with fail
  refine ⟨trivial, ?_⟩
  refine (callsIn_wide.2 (aligned_any _ _)).mono ?_
  rintro e w' ⟨rfl, rfl⟩
  gi_wp2_with fail
  refine ⟨trivial, ?_⟩
  refine (callsIn_wide.2 (reach_aligned bs bb _ w.heap.size 1 _ ((hs.alloc _).alloc _) (by go_simp) (by go_simp))).mono ?_
  rintro e w' ⟨rfl, rfl⟩
  obtain ⟨W1, hW1⟩ : ∃ W1, W1 = (w.alloc (.cells #[.int .i64 8] 3)).alloc (.cells #[.func (.func 41) #[] #[ptr w.heap.size]] 75) := ⟨_, rfl⟩
  rw [← hW1]
  have hB1 : Below w.heap.size w W1 := by rw [hW1]; exact ((Below.refl _ w).alloc (Nat.le_refl _) _).alloc (by simp) _
  have hb1 : W1.rowIs bb 5 16384 (bts m) := row_below hb hB1 hb.lt
  clear hW1
  gi_wp2_with fail
  refine ⟨trivial, ?_⟩
  refine (back_in _ _ trivial rfl _ _ _ _).mono ?_
  rintro e w' ⟨rfl, rfl⟩
  gi_wp2_with fail
  have hlb := hb1.lt
  have bU := Boxed.new W1 81 (.int .u64 0)
  have bN := Boxed.new (W1.alloc (.cells #[.int .u64 0] 81)) 25 (.slice (some ⟨bb, 16, none⟩) 8 8)
  rw [World.size_alloc] at bN
  have hB0 : Below w.heap.size w ((W1.alloc (.cells #[.int .u64 0] 81)).alloc (.cells #[.slice (some ⟨bb, 16, none⟩) 8 8] 25)) := (hB1.alloc hB1.size _).alloc (by have := hB1.size; simp; omega) _
  have hb2 := (hb1.alloc (.cells #[.int .u64 0] 81)).alloc (.cells #[.slice (some ⟨bb, 16, none⟩) 8 8] 25)
  refine wpIn_rangeFunc_ownG rfl (by omega) (gf := 47) (lb := #[.pointer (some ⟨W1.heap.size + 1, 0, none⟩)]) rfl trivial (enters_of Try.func47 (by kernel_rfl) rfl)
    (back_stops Fence.wide 3 trivial rfl (by omega) (W1.heap.size + 1) bb 16 8 8 (tb t) (by omega) _ (by simp; omega) (by simp) bN.cell (fun j hj => by rw [hb2.cell (by omega), bts, ht j hj])) (fun h k => Same2.trans h k) (same2_b (by simp; omega) (by simp)) (Below.refl _ _) (fun _ => rfl)
    (fun pre W => (W.cell? ⟨W1.heap.size, 0, none⟩ = some (.int .u64 ((acc t pre : Nat) : Int)) ∧ W.frozen? ⟨W1.heap.size, 0, none⟩ = false) ∧ Below w.heap.size w W)
    (fun _ _ _ => False)
    (OwnFrom.and (Own.from (fun s A B row hs hg hr => ⟨cell_kept hs.1 hg hr, (frozen_kept hs.1 hg hr).trans hs.2⟩) _) (ownFrom_below (Nat.le_refl _) (by have := hB1.size; simp; omega)))
    (fun _ _ _ _ _ hs _ _ => hs)
    ⟨⟨(bU.alloc _).cell, (bU.alloc _).frozen⟩, hB0⟩
    (fun x => { tmps := #[ptr bs, Value.int IntKind.i64 65552, Value.int IntKind.i64 8, undef, undef, undef, Value.int IntKind.i64 0,
          Value.int IntKind.i64 0, Value.slice (some { block := bb, off := 16 }) 8 8,
          Value.pointer (some { block := W1.heap.size, off := 0 }), undef, .int .u8 (tb t x),
          Value.tuple #[Value.slice (some { block := bb, off := 16 }) 8 8, Value.int IntKind.i64 0], ptr bs,
          Value.int IntKind.i64 65552, Value.int IntKind.i64 8, Value.int IntKind.i64 8,
          Value.func (Fn.func 41) #[] #[ptr w.heap.size], Value.slice (some { block := w.heap.size + 1, off := 0 }) 1 1,
          Value.tuple #[Value.slice (some { block := bb, off := 16 }) 8 8, Value.int IntKind.i64 0],
          Value.slice (some { block := bb, off := 16 }) 8 8, Value.int IntKind.i64 0,
          Value.slice (some { block := bb, off := 16 }) 8 8,
          Value.func (Fn.func 47) #[] #[Value.pointer (some { block := W1.heap.size + 1, off := 0 })], .int .i64 (x : Int), .int .u8 (tb t x),
          undef, undef, undef, undef, undef, undef, undef, undef], defers := [] }) ?assign ?body ?done ?stop
  case assign =>
    intro l x W K hK
    gi_wp2
    exact hK
  case body =>
    rintro l pre x W ⟨⟨hc, hf⟩, hB⟩ _
    gi_wp2
    have e : bits BinOp.or IntKind.u64 (IntKind.u64.wrap (↑(acc t pre) * 256)) (IntKind.u64.wrap (tb t x)) = ((acc t (pre ++ [x]) : Nat) : Int) := by
      rw [acc_snoc]; exact or_step _ _ (by omega)
    rw [e]
    exact ⟨(KeepsOthers.setCell _ _ _).from _, Same2.set _ (by show bb ≠ W1.heap.size; omega) (by show W1.heap.size + 1 ≠ W1.heap.size; omega) _, ⟨World.cell?_setCell_same' _ _ _ (by rw [hc]; rfl), by rw [World.frozen?_setCell]; exact hf⟩, hB.setCell (p := ⟨W1.heap.size, 0, none⟩) hB1.size _⟩
  case done =>
    rintro D ys W hD rfl ⟨⟨hc, _⟩, hB⟩ hK
    gi_wp2
    refine ⟨by simp, .inl ⟨_, _, rfl, run_takeDeferred hK, ?_⟩⟩
    rw [acc_all t ht2]
    have e2 : wrap64 (t : Int) = (t : Int) := by unfold wrap64; omega
    rw [e2]
    exact ⟨_, results_tmp2 rfl _ _ _, rfl, hB.trans (belowK_b (w := w) (Nat.le_refl _) W D _ _ (by have := hB1.size; simp at hD; omega) hK rfl rfl)⟩
  case stop =>
    rintro D c pre W _ _ h _
    exact h.elim

end Go.Proofs.Ytcjfeknkjjphfaa
