/-
  What Space.reach hands back over a space of 16384 bytes: the bytes asked for, or nil; at addresses that are there and rules that are met.
-/
import Derived.Test.YtcjfeknkjjphfaaRows
import Derived.WalkKit
import Derived.WalkSpells
import Derived.WalkLawsBesides
import Derived.WalkSmall
import Derived.Deep.OwnRows
import Derived.Deep.Draws
import Derived.Lib.Hide
namespace Go.Proofs.Ytcjfeknkjjphfaa
open Go.RowKit

def Blk (w : World) (g : Nat) (t : TypeId) (cs : Array Value) : Prop := w.heap[g]? = some (.cells cs t (0, 0))

section
variable {w w' : World} {g : Nat} {t : TypeId} {cs : Array Value}
theorem Blk.lt (h : Blk w g t cs) : g < w.heap.size := by
  rcases Nat.lt_or_ge g w.heap.size with hlt | hge
  · exact hlt
  · unfold Blk at h; rw [Array.getElem?_eq_none hge] at h; cases h
theorem Blk.cell (h : Blk w g t cs) (i : Nat) : w.cell? ⟨g, i, none⟩ = cs[i]? := cell_of_row w g i cs t (0, 0) h
theorem Blk.frozen (h : Blk w g t cs) (i : Nat) : w.frozen? ⟨g, i, none⟩ = false := by
  unfold Blk at h
  simp [World.frozen?, h]
end

abbrev ptr (b : Nat) : Value := .pointer (some ⟨b, 0, none⟩)
/-- the space's own cells -/
def spc (bb : Nat) : Array Value := #[.slice (some ⟨bb, 0, none⟩) 16384 16384, .int .i64 4096, .int .i64 77824]

section
variable {w w' : World} {g : Nat} {t : TypeId} {cs : Array Value}
theorem Blk.new (w : World) (t : TypeId) (cs : Array Value) : Blk (w.alloc (.cells cs t)) w.heap.size t cs := heap_alloc_new w _
theorem Blk.drew (h : Blk w g t cs) : Blk w.drew g t cs := h
theorem Blk.drewN (h : Blk w g t cs) (n : Nat) : Blk (w.drewN n) g t cs := h
theorem Blk.alloc (h : Blk w g t cs) (o : Obj) : Blk (w.alloc o) g t cs := (Below.heap_alloc w o g h.lt).trans h
theorem Blk.set_ (h : Blk w g t cs) (i : Nat) (u : Value) : Blk (w.setCell ⟨g, i, none⟩ u) g t (cs.setIfInBounds i u) := by
  unfold Blk at h ⊢
  simp [World.setCell, Array.getElem?_modify, h]
theorem Blk.far (h : Blk w g t cs) {p : Addr} (hp : g ≠ p.block) (u : Value) : Blk (w.setCell p u) g t cs := (Below.heap_setCell w p u g hp).trans h
theorem Blk.below {B : Nat} (h : Blk w g t cs) (hb : Below B w w') (hg : g < B) : Blk w' g t cs := (hb.block g hg).trans h
theorem Blk.grown {row : Option Nat} (h : Blk w g t cs) (hb : w.grownBy w' row) (hg : some g ≠ row) : Blk w' g t cs := (hb.block g h.lt hg).trans h
theorem Blk.ne_ {g' : Nat} {t' : TypeId} {cs' : Array Value} (h : Blk w g t cs) (h' : Blk w g' t' cs') (hne : t ≠ t') : g ≠ g' := by
  rintro rfl
  unfold Blk at h h'
  rw [h] at h'
  injection h' with h'
  injection h' with _ ht
  exact hne ht
theorem Blk.ne_row {g' n : Nat} {t' : TypeId} {f : Nat → Value} (h : Blk w g t cs) (h' : w.rowIs g' t' n f) (hne : t ≠ t') : g ≠ g' := by
  obtain ⟨c, hc, _⟩ := h'
  exact h.ne_ (t' := t') (cs' := c) hc hne
end

theorem only_alloc {a w : World} {row : Option Nat} (h : a.grownBy w row) (o : Obj) : a.grownBy (w.alloc o) row :=
  ⟨h.os, h.tape, h.output, Nat.le_trans h.size (by simp), fun i hi hne => (Below.heap_alloc w o i (Nat.lt_of_lt_of_le hi h.size)).trans (h.block i hi hne)⟩
theorem only_setCell {a w : World} {g : Nat} (h : a.grownBy w (some g)) {p : Addr} (hp : p.block = g ∨ a.heap.size ≤ p.block) (u : Value) : a.grownBy (w.setCell p u) (some g) :=
  ⟨h.os, h.tape, h.output, by simpa [World.setCell] using h.size, fun i hi hne => (Below.heap_setCell w p u i (by
    rintro rfl
    rcases hp with hp | hp
    · exact hne (by rw [hp])
    · omega)).trans (h.block i hi hne)⟩
theorem only_drewN {a w : World} {row : Option Nat} (h : a.grownBy w row) (n : Nat) : a.grownBy (w.drewN n) row := ⟨h.os, h.tape, h.output, h.size, h.block⟩
theorem only_of_below {a w : World} (h : Below a.heap.size a w) (row : Option Nat) : a.grownBy w row := ⟨h.os, h.tape, h.output, h.size, fun i hi _ => h.block i hi⟩
theorem only_trans {a b c : World} {row : Option Nat} (h : a.grownBy b row) (k : b.grownBy c row) : a.grownBy c row :=
  ⟨k.os.trans h.os, k.tape.trans h.tape, k.output.trans h.output, Nat.le_trans h.size k.size, fun i hi hne => (k.block i (Nat.lt_of_lt_of_le hi h.size) hne).trans (h.block i hi hne)⟩
theorem row_below {w w' : World} {b n B : Nat} {t : TypeId} {f : Nat → Value} (h : w.rowIs b t n f) (hb : Below B w w') (hg : b < B) : w'.rowIs b t n f := h.of_block (hb.block b hg)
theorem row_grown {w w' : World} {b n : Nat} {t : TypeId} {f : Nat → Value} {row : Option Nat} (h : w.rowIs b t n f) (hb : w.grownBy w' row) (hg : some b ≠ row) : w'.rowIs b t n f := h.of_block (hb.block b h.lt hg)

set_option maxHeartbeats 400000 in
theorem aligned_any (n : Int) (w : World) :
    Calls Try.prog 32 #[.int .i64 n] w fun e w' => e = .returned (.func (.func 41) #[] #[ptr w.heap.size]) ∧ w.alloc (.cells #[.int .i64 n] 3) = w' := by
  go_enter Try.func32, Try.ntmps32
  go_wp2
  go_ret
  exact ⟨rfl, rfl⟩

theorem ret_sl {b k k' m m' : Nat} {x : Int} (h1 : k = k') (h2 : m = m') : Ending.returned (.tuple #[.slice (some ⟨b, k, none⟩) m m, .int .i64 x]) = Ending.returned (.tuple #[.slice (some ⟨b, k', none⟩) m' m', .int .i64 x]) := by rw [h1, h2]

set_option maxHeartbeats 400000 in
theorem reach_plain (bs bb : Nat) (a n : Int) (w : World) (hs : Blk w bs 68 (spc bb)) (ha : 65536 ≤ a) (hn : 1 ≤ n) (hf : a + n ≤ 81920) :
    Calls Try.prog 25 #[ptr bs, .int .i64 a, .int .i64 n, .slice none 0 0] w fun e w' => e = .returned (.tuple #[.slice (some ⟨bb, (a - 65536).toNat, none⟩) n.toNat n.toNat, .int .i64 0]) ∧ w = w' := by
  obtain ⟨k, rfl⟩ : ∃ k : Nat, a = 65536 + (k : Int) := ⟨(a - 65536).toNat, by omega⟩
  obtain ⟨m, rfl⟩ : ∃ m : Nat, n = (m : Int) := ⟨n.toNat, by omega⟩
  have hc0 := hs.cell 0
  simp only [spc] at hc0
  clear hs
  go_enter Try.func25, Try.ntmps25
  go_wp2
  refine wp_loop_rounds 1 ?_
  rw [rounds_succ]
  go_wp2
  go_ret2
  exact ⟨ret_sl (by omega) (by omega), rfl⟩

set_option maxHeartbeats 400000 in
theorem reach_none (bs bb : Nat) (a : Int) (rs : Value) (w : World) (hs : Blk w bs 68 (spc bb)) :
    Calls Try.prog 25 #[ptr bs, .int .i64 a, .int .i64 0, rs] w fun e w' => e = .returned (.tuple #[.slice none 0 0, .int .i64 0]) ∧ w = w' := by
  have hc0 := hs.cell 0
  simp only [spc] at hc0
  clear hs
  go_enter Try.func25, Try.ntmps25
  go_wp2
  go_ret2
  exact ⟨rfl, rfl⟩

set_option maxHeartbeats 400000 in
theorem reach_aligned (bs bb br bx c : Nat) (w : World) (hs : Blk w bs 68 (spc bb)) (hr : w.cell? ⟨br, 0, none⟩ = some (.func (.func 41) #[] #[ptr bx])) (hx : w.cell? ⟨bx, 0, none⟩ = some (.int .i64 8)) :
    Calls Try.prog 25 #[ptr bs, .int .i64 65552, .int .i64 8, .slice (some ⟨br, 0, none⟩) 1 c] w fun e w' => e = .returned (.tuple #[.slice (some ⟨bb, 16, none⟩) 8 8, .int .i64 0]) ∧ w = w' := by
  have hc0 := hs.cell 0
  simp only [spc] at hc0
  clear hs
  go_enter Try.func25, Try.ntmps25
  go_wp2
  refine wp_loop_rounds 2 ?_
  rw [rounds_succ]
  go_wp2
  rw [rounds_succ]
  go_wp2
  go_ret2
  exact ⟨rfl, rfl⟩

set_option maxHeartbeats 400000 in
theorem reach_open (bs bb br c : Nat) (n : Int) (w : World) (hs : Blk w bs 68 (spc bb)) (hn : 1 ≤ n) (hf : n ≤ 1024) (hr : w.cell? ⟨br, 0, none⟩ = some (.func (.func 31) #[] #[])) :
    Calls Try.prog 25 #[ptr bs, .int .i64 65792, .int .i64 n, .slice (some ⟨br, 0, none⟩) 1 c] w fun e w' => e = .returned (.tuple #[.slice (some ⟨bb, 256, none⟩) n.toNat n.toNat, .int .i64 0]) ∧ w = w' := by
  obtain ⟨m, rfl⟩ : ∃ m : Nat, n = (m : Int) := ⟨n.toNat, by omega⟩
  have hc0 := hs.cell 0
  simp only [spc] at hc0
  clear hs
  go_enter Try.func25, Try.ntmps25
  go_wp2
  refine wp_loop_rounds 2 ?_
  rw [rounds_succ]
  go_wp2
  rw [rounds_succ]
  go_wp2
  go_ret2
  exact ⟨ret_sl (by omega) (by omega), rfl⟩
end Go.Proofs.Ytcjfeknkjjphfaa
