/-
  Now tells the source, and Set turns it; with a line laid.
-/
import Derived.Test.YtcjfeknkjjphfaaPiece
import Derived.WalkLawsBesides
namespace Go.Proofs.Ytcjfeknkjjphfaa
open Go.RowKit

/-- a Spec -/
def spec5 (L t : Int) : Value := .agg #[.int .i64 0, .int .i64 65792, .int .i64 L, .int .i64 t, .int .i64 0]

set_option maxHeartbeats 1000000 in
theorem now_any (bs bb bc L t : Nat) (inn : Int) (ln m : Nat → Int) (w : World) (h : St w bs bb bc L inn t ln m) :
    Calls Try.prog 15 #[ptr bc] w fun e w' => e = .returned (spec5 L t) ∧ Below w.heap.size w w' := by
  have hL := h.hL
  have ht := h.ht
  have hc0 := h.c.cell 0
  have hc1 := h.c.cell 1
  have hc2 := h.c.cell 2
  have hc3 := h.c.cell 3
  have hc4 := h.c.cell 4
  have hc5 := h.c.cell 5
  simp only [src] at hc0 hc1 hc2 hc3 hc4 hc5
  have hlt : bc < w.heap.size := h.c.lt
  go_enter Try.func15, Try.ntmps15
  go_wp2_with (go_at_call 20; go_in)
  obtain ⟨W1, hW1⟩ : ∃ W1, W1 = (w.alloc (.cells #[.int .i64 0, .int .i64 0, .int .i64 0, .int .i64 0, .int .i64 0] 45)).alloc (.cells #[.int .i64 0, .int .i64 65792, .int .i64 L, .int .i64 inn, .int .i64 0] 45) := ⟨_, rfl⟩
  rw [← hW1]
  have hB1 : Below w.heap.size w W1 := by rw [hW1]; exact ((Below.refl _ w).alloc (Nat.le_refl _) _).alloc (by simp) _
  have hb0 : Blk W1 w.heap.size 45 #[.int .i64 0, .int .i64 0, .int .i64 0, .int .i64 0, .int .i64 0] := by rw [hW1]; exact (Blk.new w _ _).alloc _
  have hb1 : Blk W1 (w.heap.size + 1) 45 #[.int .i64 0, .int .i64 65792, .int .i64 L, .int .i64 inn, .int .i64 0] := by
    rw [hW1]
    have := Blk.new (w.alloc (.cells #[.int .i64 0, .int .i64 0, .int .i64 0, .int .i64 0, .int .i64 0] 45)) 45 #[.int .i64 0, .int .i64 65792, .int .i64 L, .int .i64 inn, .int .i64 0]
    rwa [World.size_alloc] at this
  clear hW1 hc0 hc1 hc2 hc3 hc4 hc5 hlt
  refine (in_any bs bb bc t 65792 L inn m _ (h.below hB1).toSrc (by omega)).mono ?_
  rintro e W2 ⟨rfl, hB2⟩
  have hx0 := hb0.below hB2 hb0.lt
  have hx1 := hb1.below hB2 hb1.lt
  have hB : Below w.heap.size w W2 := hB1.trans (hB2.mono hB1.size)
  have y0 := hx0.cell 0
  have y1 := hx0.cell 1
  have y2 := hx0.cell 2
  have y3 := hx0.cell 3
  have y4 := hx0.cell 4
  have z0 := hx1.cell 0
  have z1 := hx1.cell 1
  have z2 := hx1.cell 2
  have z3 := hx1.cell 3
  have z4 := hx1.cell 4
  have fy := hx0.frozen
  have fz := hx1.frozen
  simp only [List.getElem?_toArray, List.getElem?_cons_zero, List.getElem?_cons_succ] at y0 y1 y2 y3 y4 z0 z1 z2 z3 z4
  have HX := Lib.hid hx0
  clear hx0 hx1 hb0 hb1 hB1 hB2
  go_wp2
  have hk := (((((HX.out.far (p := ⟨w.heap.size + 1, 3, none⟩) (by simp) (.int .i64 t)).set_ 0 (.int .i64 0)).set_ 1 (.int .i64 65792)).set_ 2 (.int .i64 L)).set_ 3 (.int .i64 t)).set_ 4 (.int .i64 0)
  have k0 := hk.cell 0
  have k1 := hk.cell 1
  have k2 := hk.cell 2
  have k3 := hk.cell 3
  have k4 := hk.cell 4
  simp at k0 k1 k2 k3 k4
  refine bodyPost_ret (v := spec5 L t) ?_ rfl ⟨rfl, ?_⟩
  · simp [results, Try.results15, go_sem, k0, k1, k2, k3, k4, spec5]
  · exact (((((hB.setCell (p := ⟨w.heap.size + 1, 3, none⟩) (by simp) _).setCell (p := ⟨w.heap.size, 0, none⟩) (by simp) _).setCell (p := ⟨w.heap.size, 1, none⟩) (by simp) _).setCell (p := ⟨w.heap.size, 2, none⟩) (by simp) _).setCell (p := ⟨w.heap.size, 3, none⟩) (by simp) _).setCell (p := ⟨w.heap.size, 4, none⟩) (by simp) _

/-- of what was there only blocks b and c may have turned -/
structure Only2 (b c : Nat) (w w' : World) : Prop where
  os : w'.os = w.os
  tape : w'.tape = w.tape
  output : w'.output = w.output
  size : w.heap.size ≤ w'.heap.size
  block : ∀ k, k < w.heap.size → k ≠ b → k ≠ c → w'.heap[k]? = w.heap[k]?

theorem Only2.refl (b c : Nat) (w : World) : Only2 b c w w := ⟨rfl, rfl, rfl, Nat.le_refl _, fun _ _ _ _ => rfl⟩
theorem Only2.trans {b c : Nat} {u v w : World} (h : Only2 b c u v) (k : Only2 b c v w) : Only2 b c u w :=
  ⟨k.os.trans h.os, k.tape.trans h.tape, k.output.trans h.output, Nat.le_trans h.size k.size, fun i hi h1 h2 => (k.block i (Nat.lt_of_lt_of_le hi h.size) h1 h2).trans (h.block i hi h1 h2)⟩
theorem Only2.of_grown {b c : Nat} {w w' : World} (h : w.grownBy w' (some b)) : Only2 b c w w' := ⟨h.os, h.tape, h.output, h.size, fun k hk h1 _ => h.block k hk (by simpa using h1)⟩
theorem Only2.of_below {b c : Nat} {w w' : World} (h : Below w.heap.size w w') : Only2 b c w w' := ⟨h.os, h.tape, h.output, h.size, fun k hk _ _ => h.block k hk⟩
theorem Only2.alloc {b c : Nat} {a w : World} (h : Only2 b c a w) (o : Obj) : Only2 b c a (w.alloc o) := h.trans (Only2.of_below ((Below.refl _ w).alloc (Nat.le_refl _) _))
theorem Only2.drewN {b c : Nat} {a w : World} (h : Only2 b c a w) (n : Nat) : Only2 b c a (w.drewN n) := ⟨h.os, h.tape, h.output, h.size, h.block⟩
theorem Only2.drew {b c : Nat} {a w : World} (h : Only2 b c a w) : Only2 b c a w.drew := ⟨h.os, h.tape, h.output, h.size, h.block⟩
theorem Only2.set {b c : Nat} {a w : World} (h : Only2 b c a w) {p : Addr} (hp : p.block = b ∨ p.block = c ∨ a.heap.size ≤ p.block) (u : Value) : Only2 b c a (w.setCell p u) :=
  ⟨h.os, h.tape, h.output, by simpa [World.setCell] using h.size, fun k hk h1 h2 => (Below.heap_setCell w p u k (by omega)).trans (h.block k hk h1 h2)⟩
theorem Only2.below {b c B : Nat} {w w' : World} (h : Only2 b c w w') (hB : B ≤ w.heap.size) (hb : B ≤ b) (hc : B ≤ c) : Below B w w' := ⟨h.os, h.tape, h.output, h.size, fun k hk => h.block k (by omega) (by omega) (by omega)⟩
theorem Only2.cell {b c : Nat} {w w' : World} (h : Only2 b c w w') {p : Addr} (hlt : p.block < w.heap.size) (h1 : p.block ≠ b) (h2 : p.block ≠ c) : w'.cell? p = w.cell? p := World.cell?_of_block (w := w) (h.block _ hlt h1 h2)
theorem Only2.blk {b c : Nat} {w w' : World} (h : Only2 b c w w') {g : Nat} {t : TypeId} {cs : Array Value} (hk : Blk w g t cs) (h1 : g ≠ b) (h2 : g ≠ c) : Blk w' g t cs := (h.block g hk.lt h1 h2).trans hk

set_option maxHeartbeats 1000000 in
theorem set_any (bs bb bc L t t' : Nat) (inn : Int) (ln m : Nat → Int) (w : World) (h : St w bs bb bc L inn t ln m) (ht' : t' ≤ L) :
    Calls Try.prog 16 #[ptr bc, spec5 L t'] w fun e w' => ∃ m', e = .returned (.tuple #[]) ∧ St w' bs bb bc L t' t' ln m' ∧ Only2 bb bc w w' := by
  have hL := h.hL
  have hc0 := h.c.cell 0
  have hc1 := h.c.cell 1
  have hc2 := h.c.cell 2
  have hc3 := h.c.cell 3
  have hc4 := h.c.cell 4
  have hc5 := h.c.cell 5
  have hfz := h.c.frozen
  have hlt : bc < w.heap.size := h.c.lt
  simp only [src, List.getElem?_toArray, List.getElem?_cons_zero, List.getElem?_cons_succ] at hc0 hc1 hc2 hc3 hc4 hc5
  unfold spec5
  go_enter Try.func16, Try.ntmps16
  go_wp2_with (go_at_call 20; go_in)
  obtain ⟨W3, hW3⟩ : ∃ W3, W3 = (((((w.setCell ⟨bc, 1, none⟩ (.int .i64 0)).setCell ⟨bc, 2, none⟩ (.int .i64 65792)).setCell ⟨bc, 3, none⟩ (.int .i64 L)).setCell ⟨bc, 4, none⟩ (.int .i64 t')).setCell ⟨bc, 5, none⟩ (.int .i64 0)).alloc (.cells #[.int .i64 0, .int .i64 65792, .int .i64 L, .int .i64 t', .int .i64 0] 45) := ⟨_, rfl⟩
  rw [← hW3]
  have hO : Only2 bb bc w W3 := by
    rw [hW3]
    exact (((((((Only2.refl bb bc w).set (p := ⟨bc, 1, none⟩) (.inr (.inl rfl)) _).set (p := ⟨bc, 2, none⟩) (.inr (.inl rfl)) _).set (p := ⟨bc, 3, none⟩) (.inr (.inl rfl)) _).set (p := ⟨bc, 4, none⟩) (.inr (.inl rfl)) _).set (p := ⟨bc, 5, none⟩) (.inr (.inl rfl)) _).alloc _)
  have hne1 : bs ≠ bb := h.s.ne_row h.b (by decide)
  have hne2 : bc ≠ bb := h.c.ne_row h.b (by decide)
  have hne3 : bs ≠ bc := h.s.ne_ h.c (by decide)
  have hbc : Blk W3 bc 60 (src bs 65792 L t') := by
    rw [hW3]
    exact (((((h.c.set_ 1 _).set_ 2 _).set_ 3 _).set_ 4 _).set_ 5 _).alloc _
  have hbb : W3.rowIs bb 5 16384 (bts m) := by
    rw [hW3]
    exact ((((((h.b.setOther (a := ⟨bc, 1, none⟩) (Ne.symm hne2) _).setOther (a := ⟨bc, 2, none⟩) (Ne.symm hne2) _).setOther (a := ⟨bc, 3, none⟩) (Ne.symm hne2) _).setOther (a := ⟨bc, 4, none⟩) (Ne.symm hne2) _).setOther (a := ⟨bc, 5, none⟩) (Ne.symm hne2) _).alloc _)
  have h3 : St W3 bs bb bc L t' t ln m := ⟨⟨hO.blk h.s hne1 hne3, hbb, hbc, h.tin, h.tl⟩, h.line, h.hL, h.ht⟩
  have hp : Blk W3 w.heap.size 45 #[.int .i64 0, .int .i64 65792, .int .i64 L, .int .i64 t', .int .i64 0] := by
    rw [hW3]
    have := Blk.new (((((w.setCell ⟨bc, 1, none⟩ (.int .i64 0)).setCell ⟨bc, 2, none⟩ (.int .i64 65792)).setCell ⟨bc, 3, none⟩ (.int .i64 L)).setCell ⟨bc, 4, none⟩ (.int .i64 t')).setCell ⟨bc, 5, none⟩ (.int .i64 0)) 45 #[.int .i64 0, .int .i64 65792, .int .i64 L, .int .i64 t', .int .i64 0]
    rwa [show (((((w.setCell ⟨bc, 1, none⟩ (.int .i64 0)).setCell ⟨bc, 2, none⟩ (.int .i64 65792)).setCell ⟨bc, 3, none⟩ (.int .i64 L)).setCell ⟨bc, 4, none⟩ (.int .i64 t')).setCell ⟨bc, 5, none⟩ (.int .i64 0)).heap.size = w.heap.size from by simp [World.setCell]] at this
  clear hW3 hc0 hc1 hc2 hc3 hc4 hc5 hfz
  have q0 := h3.c.cell 0
  have q3 := hp.cell 3
  simp only [src, List.getElem?_toArray, List.getElem?_cons_zero, List.getElem?_cons_succ] at q0 q3
  have hcall := system_any bs bb t' m W3.drew h3.s.drew h3.b.drew (by omega) (by omega)
  have Hcall := Lib.hid hcall
  clear hcall hp hbc hbb
  have hbl := h.b.lt
  go_region_held3 (fun W => W.cell? ⟨bc, 0, none⟩ = some (ptr bs) ∧ W.cell? ⟨w.heap.size, 3, none⟩ = some (.int .i64 t')) (first | go_keep | exact trivial)
    (first | (go_at_call 23; refine Hcall.out.mono ?_; rintro e W4 ⟨rfl, hr, hg⟩; have hx0 : W4.cell? ⟨bc, 0, none⟩ = some (ptr bs) := hg.cell q0 (by simpa using hne2); have hx2 : W4.cell? ⟨w.heap.size, 3, none⟩ = some (.int .i64 t') := hg.cell q3 (by simp; omega)))
  have hg' : W3.grownBy W4 (some bb) := ⟨hg.os, hg.tape, hg.output, hg.size, hg.block⟩
  rw [Int.toNat_natCast] at hr
  go_end0
  exact ⟨_, rfl, h3.stored hr hg' ht', hO.trans (Only2.of_grown hg')⟩
end Go.Proofs.Ytcjfeknkjjphfaa
