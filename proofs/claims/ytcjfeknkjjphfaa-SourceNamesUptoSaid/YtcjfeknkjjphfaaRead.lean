/-
  Fetch, in, End, inside, Clone and Bytes over the space and the source; with a line of at most 1024 bytes laid.
-/
import Derived.Deep.QuietTactic
import Derived.BigQuiet
import Derived.Deep.AppendLies
import Derived.Test.YtcjfeknkjjphfaaGet
namespace Go.Proofs.Ytcjfeknkjjphfaa
open Go.RowKit

theorem quiet_add_left {P : Program} {f : FuncId} {args : Array Value} {w : World} {a n : Nat} {v : Value}
    (h : Calls P f args (w.drewN (a + n)) fun e w' => e = .returned v ∧ w.drewN (a + n) = w') :
    Calls P f args (w.drewN (a + n)) fun e w'' => e = .returned v ∧ ∃ m, w'' = w.drewN (a + m) :=
  h.mono fun _ _ ⟨he, hm⟩ => ⟨he, n, hm.symm⟩
theorem quiet_left {P : Program} {f : FuncId} {args : Array Value} {w : World} {n : Nat} {v : Value}
    (h : Calls P f args (w.drewN n) fun e w' => e = .returned v ∧ w.drewN n = w') : Calls P f args (w.drewN n) fun e w'' => e = .returned v ∧ ∃ m, w'' = w.drewN m :=
  h.mono fun _ _ ⟨he, hm⟩ => ⟨he, n, hm.symm⟩

/-- the source's own cells -/
def src (bs : Nat) (at_ len inn : Int) : Array Value := #[ptr bs, .int .i64 0, .int .i64 at_, .int .i64 len, .int .i64 inn, .int .i64 0]

structure Src (w : World) (bs bb bc : Nat) (at_ len inn : Int) (t : Nat) (m : Nat → Int) : Prop where
  s : Blk w bs 68 (spc bb)
  b : w.rowIs bb 5 16384 (bts m)
  c : Blk w bc 60 (src bs at_ len inn)
  tin : ∀ i, i < 8 → m (16 + i) = tb t i
  tl : t ≤ 2000000

theorem Src.below {w w' : World} {bs bb bc : Nat} {at_ len inn : Int} {t B : Nat} {m : Nat → Int} (h : Src w bs bb bc at_ len inn t m) (hb : Below B w w') (h1 : bs < B) (h2 : bb < B) (h3 : bc < B) : Src w' bs bb bc at_ len inn t m :=
  ⟨h.s.below hb h1, row_below h.b hb h2, h.c.below hb h3, h.tin, h.tl⟩

set_option maxHeartbeats 400000 in
theorem fetch_tin (bs bb t : Nat) (m : Nat → Int) (w : World) (hs : Blk w bs 68 (spc bb)) (hb : w.rowIs bb 5 16384 (bts m)) (ht : ∀ i, i < 8 → m (16 + i) = tb t i) (ht2 : t ≤ 2000000) :
    Calls Try.prog 37 #[ptr bs, .int .i64 65552] w fun e w' => e = .returned (.tuple #[.int .i64 (t : Int), .int .i64 0]) ∧ Below w.heap.size w w' := by
  go_enter Try.func37, Try.ntmps37
  go_wp2_with fail
  refine (get_tin bs bb t m w hs hb ht ht2).mono ?_
  rintro e w' ⟨rfl, hB⟩
  go_wp2
  go_ret2
  exact ⟨rfl, hB⟩

set_option maxHeartbeats 400000 in
theorem in_any (bs bb bc t : Nat) (at_ len inn : Int) (m : Nat → Int) (w : World) (h : Src w bs bb bc at_ len inn t m) (hl : (t : Int) ≤ len) :
    Calls Try.prog 28 #[ptr bc] w fun e w' => e = .returned (.int .i64 (t : Int)) ∧ Below w.heap.size w w' := by
  have hc0 := h.c.cell 0
  simp only [src] at hc0
  go_enter Try.func28, Try.ntmps28
  go_wp2_with fail
  refine (fetch_tin bs bb t m w h.s h.b h.tin h.tl).mono ?_
  rintro e w' ⟨rfl, hB⟩
  have hc3 := (h.c.below hB h.c.lt).cell 3
  simp only [src] at hc3
  go_wp2
  go_ret
  exact ⟨rfl, hB⟩

set_option maxHeartbeats 400000 in
theorem end_any (bs bb : Nat) (w : World) (hs : Blk w bs 68 (spc bb)) :
    Calls Try.prog 38 #[ptr bs] w fun e w' => e = .returned (.int .i64 81920) ∧ w = w' := by
  have hc0 := hs.cell 0
  have hc2 := hs.cell 2
  simp only [spc] at hc0 hc2
  go_enter Try.func38, Try.ntmps38
  go_wp2
  go_ret
  exact ⟨rfl, rfl⟩

set_option maxHeartbeats 400000 in
theorem inside_pos (bs bb bc L : Nat) (inn : Int) (w : World) (hs : Blk w bs 68 (spc bb)) (hc : Blk w bc 60 (src bs 65792 L inn)) (hl : L ≤ 1024) (h0 : 0 < L) :
    Calls Try.prog 29 #[ptr bc] w fun e w' => e = .returned (.tuple #[.int .i64 0, .int .i64 (L : Int)]) ∧ ∃ n, w' = w.drewN n := by
  have hc0 := hc.cell 0
  have hc2 := hc.cell 2
  have hc3 := hc.cell 3
  simp only [src] at hc0 hc2 hc3
  go_enter Try.func29, Try.ntmps29
  go_wp2_with (go_at_call 38; refine (end_any bs bb _ hs).mono ?_; rintro e w' ⟨rfl, rfl⟩)
  go_quiet (fail)
  go_wp2
  go_quiet ((go_at_call 38; exact quiet_add_left (end_any bs bb _ (hs.drewN _))))
  go_wp2
  go_ret2
  exact ⟨rfl, _, rfl⟩

set_option maxHeartbeats 400000 in
theorem inside_zero (bs bb bc : Nat) (inn : Int) (w : World) (hs : Blk w bs 68 (spc bb)) (hc : Blk w bc 60 (src bs 65792 0 inn)) :
    Calls Try.prog 29 #[ptr bc] w fun e w' => e = .returned (.tuple #[.int .i64 0, .int .i64 0]) ∧ ∃ n, w' = w.drewN n := by
  have hc0 := hc.cell 0
  have hc2 := hc.cell 2
  have hc3 := hc.cell 3
  simp only [src] at hc0 hc2 hc3
  go_enter Try.func29, Try.ntmps29
  go_wp2_with (go_at_call 38; refine (end_any bs bb _ hs).mono ?_; rintro e w' ⟨rfl, rfl⟩)
  go_quiet (fail)
  go_wp2
  go_quiet ((go_at_call 38; exact quiet_add_left (end_any bs bb _ (hs.drewN _))))
  go_wp2
  go_ret2
  exact ⟨rfl, _, rfl⟩

theorem inside_any (bs bb bc L : Nat) (inn : Int) (w : World) (hs : Blk w bs 68 (spc bb)) (hc : Blk w bc 60 (src bs 65792 L inn)) (hl : L ≤ 1024) :
    Calls Try.prog 29 #[ptr bc] w fun e w' => e = .returned (.tuple #[.int .i64 0, .int .i64 (L : Int)]) ∧ ∃ n, w' = w.drewN n := by
  by_cases h0 : L = 0
  · subst h0
    exact inside_zero bs bb bc inn w hs hc
  · exact inside_pos bs bb bc L inn w hs hc hl (by omega)

theorem addr_add (b off j : Nat) : (⟨b, off, none⟩ : Addr).add j = ⟨b, off + j, none⟩ := by
  unfold Addr.add
  by_cases h : j = 0 <;> simp [h]

theorem info5 : (Try.prog.info? 5).map (fun i => (i.zero, i.size, i.bytes)) = some (some (.int .u8 0), 1, 1) := by kernel_rfl

def news (f : Nat → Int) (n : Nat) : List Value := (List.range n).map fun j => Value.int .u8 (f j)
theorem news_length (f : Nat → Int) (n : Nat) : (news f n).length = n := by simp [news]
theorem news_get (f : Nat → Int) (n j : Nat) (h : j < n) : (news f n)[j]? = some (.int .u8 (f j)) := by simp [news, h]

set_option maxHeartbeats 400000 in
theorem clone_any (b off n cap : Nat) (f : Nat → Int) (w : World) (hn : 0 < n) (hn2 : n ≤ 1000000) (hc : ∀ j, j < n → w.cell? ⟨b, off + j, none⟩ = some (.int .u8 (f j))) :
    Calls Try.prog 26 #[.slice (some ⟨b, off, none⟩) n cap] w fun e w' => ∃ g c, e = .returned (.slice (some ⟨g, 0, none⟩) n c) ∧ w.heap.size ≤ g ∧ g < w'.heap.size ∧ (∀ j, j < n → w'.cell? ⟨g, j, none⟩ = some (.int .u8 (f j))) ∧ Below w.heap.size w w' := by
  have qT : ∀ (w : World) (a : Option Addr) (n c n' c' : Nat), (binOp .eql 25 (.slice a n c) (.slice none n' c')).run Try.prog w = .ok (.bool a.isNone) w := fun w a n c n' c' => Lib.run_eql_slice_nil w _ _ a n c n' c' Try.underlying25
  have Hc := Lib.hid hc
  clear hc
  obtain ⟨i0, hi, hz0, hz1, hz2⟩ := info_parts info5
  have Hi := Lib.hid hi
  have Hz0 := Lib.hid hz0
  have Hz1 := Lib.hid hz1
  have Hz2 := Lib.hid hz2
  clear hi hz0 hz1 hz2
  go_enter Try.func26, Try.ntmps26
  go_wp2_with (at_builtin; go_must (refine wpList_append_lies _ rfl _ _ 25 rfl w.heap.size 5 i0 (.int .u8 0) 1 1 Try.underlying25 Hi.out Hz0.out Hz1.out Hz2.out rfl (by decide) (.slice (some ⟨w.heap.size, 0, none⟩) 0 0) 0 [] rfl (World.ownsRow_lit w #[] 0 (Nat.le_refl _) (by decide) rfl) ⟨b, off, none⟩ n cap (news f n) rfl (by simp [news_length]) ?c1 ?c2 hn ?c3 ?c4 ?c5 (w.heap.size + 1) ?c6 ?_))
  case c1 =>
    intro j u hu
    have hj : j < n := by
      rcases Nat.lt_or_ge j n with h | h
      · exact h
      · rw [List.getElem?_eq_none (by rw [news_length]; exact h)] at hu; cases hu
    rw [news_get f n j hj] at hu
    cases hu
    rw [addr_add]
    exact cell_later ((Below.refl _ w).alloc (Nat.le_refl _) _) (Hc.out j hj)
  case c2 =>
    intro u hu
    obtain ⟨j, _, rfl⟩ := List.mem_map.1 hu
    rfl
  case c3 => unfold maxLen; omega
  case c4 => omega
  case c5 => simp
  case c6 => simp
  intro g cap1 w1 hown hgr hat hlt
  go_wp2
  go_ret
  refine ⟨g, cap1, rfl, ?_, hlt, fun j hj => by rw [hown.cellAt j (by omega), news_get f n j hj], ?_⟩
  · rcases hat with h | h
    · simp [Value.ownBlock] at h; omega
    · omega
  · exact ((Below.refl _ w).alloc (Nat.le_refl _) _).grown hgr (by simp) (fun k hk => by simp [Value.ownBlock] at hk; omega)

set_option maxHeartbeats 400000 in
theorem clone_nil (c : Nat) (w : World) :
    Calls Try.prog 26 #[.slice none 0 c] w fun e w' => e = .returned (.slice none 0 0) ∧ w = w' := by
  have qT : ∀ (w : World) (a : Option Addr) (n c n' c' : Nat), (binOp .eql 25 (.slice a n c) (.slice none n' c')).run Try.prog w = .ok (.bool a.isNone) w := fun w a n c n' c' => Lib.run_eql_slice_nil w _ _ a n c n' c' Try.underlying25
  go_enter Try.func26, Try.ntmps26
  go_wp2
  go_ret
  exact ⟨rfl, rfl⟩

/-- Bytes(a, n), n at least 1, of bytes that are there: a copy. -/
theorem bytes_pos (bs bb : Nat) (a n : Int) (m : Nat → Int) (w : World) (hs : Blk w bs 68 (spc bb)) (hb : w.rowIs bb 5 16384 (bts m)) (ha : 65536 ≤ a) (hn : 1 ≤ n) (hf : a + n ≤ 81920) :
    Calls Try.prog 11 #[ptr bs, .int .i64 a, .int .i64 n] w fun e w' => ∃ g c, e = .returned (.tuple #[.slice (some ⟨g, 0, none⟩) n.toNat c, .int .i64 0]) ∧ w.heap.size ≤ g ∧ g < w'.heap.size ∧ (∀ j, j < n.toNat → w'.cell? ⟨g, j, none⟩ = some (.int .u8 (m ((a - 65536).toNat + j)))) ∧ Below w.heap.size w w' := by
  obtain ⟨N, rfl⟩ : ∃ N : Nat, n = (N : Int) := ⟨n.toNat, by omega⟩
  go_enter Try.func11, Try.ntmps11
  go_wp2_with fail
  refine (reach_plain bs bb _ _ _ hs ha hn hf).mono ?_
  rintro e w' ⟨rfl, rfl⟩
  rw [Int.toNat_natCast]
  go_wp2_with fail
  refine (clone_any bb _ N N (fun j => m ((a - 65536).toNat + j)) _ (by omega) (by omega) (fun j hj => by rw [hb.cell (by omega)]; rfl)).mono ?_
  rintro e w' ⟨g, c, rfl, h1, h2, h3, h4⟩
  have H3 := Lib.hid h3
  clear h3
  go_wp2
  go_ret2
  exact ⟨g, c, rfl, h1, h2, H3.out, h4⟩

theorem bytes_zero (bs bb : Nat) (a : Int) (w : World) (hs : Blk w bs 68 (spc bb)) :
    Calls Try.prog 11 #[ptr bs, .int .i64 a, .int .i64 0] w fun e w' => e = .returned (.tuple #[.slice none 0 0, .int .i64 0]) ∧ w = w' := by
  go_enter Try.func11, Try.ntmps11
  go_wp2_with fail
  refine (reach_none bs bb _ _ _ hs).mono ?_
  rintro e w' ⟨rfl, rfl⟩
  go_wp2_with fail
  refine (clone_nil _ _).mono ?_
  rintro e w' ⟨rfl, rfl⟩
  go_wp2
  go_ret2
  exact ⟨rfl, rfl⟩
end Go.Proofs.Ytcjfeknkjjphfaa
