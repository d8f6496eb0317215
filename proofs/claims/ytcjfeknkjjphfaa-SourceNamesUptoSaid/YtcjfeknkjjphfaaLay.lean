/-
  Put and Lay lay a line of at most 1024 bytes into a new source.
-/
import Derived.Test.YtcjfeknkjjphfaaNow
import Derived.Laws.CopyOwn
import Derived.Laws.EntriesVeiled
namespace Go.Proofs.Ytcjfeknkjjphfaa
open Go.RowKit

/-- a slice of bytes that reads as the first n of ln -/
def Reads8 (w : World) (A : Option Addr) (n : Nat) (ln : Nat → Int) : Prop := 0 < n → ∃ ad : Addr, A = some ad ∧ ad.block < w.heap.size ∧ ∀ j, j < n → w.cell? (ad.add j) = some (.int .u8 (ln j))

theorem block_of_add (a : Addr) (n : Nat) : (a.add n).block = a.block := by unfold Addr.add; split <;> rfl

theorem Reads8.below {w w' : World} {A : Option Addr} {n : Nat} {ln : Nat → Int} (h : Reads8 w A n ln) (hB : Below w.heap.size w w') : Reads8 w' A n ln := fun hn => by
  obtain ⟨ad, e, hb, hc⟩ := h hn
  exact ⟨ad, e, Nat.lt_of_lt_of_le hb hB.size, fun j hj => (hB.cell (p := ad.add j) (by rw [block_of_add]; exact hb)).trans (hc j hj)⟩

/-- the line laid -/
def putLine (m ln : Nat → Int) (n : Nat) : Nat → Int := fun j => if 256 ≤ j ∧ j < 256 + n then ln (j - 256) else m j

theorem splice_get {cur : List Value} {f ln : Nat → Int} {n : Nat} (hc : cur.length = 16384) (hf : ∀ i, i < 16384 → cur[i]? = some (.int .u8 (f i))) (i : Nat) (hi : i < 16384) :
    (cur.take 256 ++ (news ln n ++ cur.drop (256 + (news ln n).length)))[i]? = some (bts (putLine f ln n) i) := by
  rw [news_length]
  have hnl := news_length ln n
  simp only [bts, putLine]
  rcases Nat.lt_or_ge i 256 with h1 | h1
  · rw [List.getElem?_append_left (by rw [List.length_take]; omega), List.getElem?_take, if_pos h1, hf i hi, if_neg (by omega)]
  · rw [List.getElem?_append_right (by rw [List.length_take]; omega), List.length_take, hc, show i - Nat.min 256 16384 = i - 256 from by simp]
    rcases Nat.lt_or_ge i (256 + n) with h2 | h2
    · rw [List.getElem?_append_left (by omega), news_get ln n _ (by omega), if_pos ⟨h1, h2⟩]
    · rw [List.getElem?_append_right (by omega), hnl, List.getElem?_drop, show 256 + n + (i - 256 - n) = i from by omega, hf i hi, if_neg (by omega)]

set_option maxHeartbeats 1000000 in
theorem put_pos (bs bb n c : Nat) (ad : Addr) (m ln : Nat → Int) (w : World) (hs : Blk w bs 68 (spc bb)) (hb : w.rowIs bb 5 16384 (bts m)) (hn : n ≤ 1024) (h0 : 0 < n) (hc : ∀ j, j < n → w.cell? (ad.add j) = some (.int .u8 (ln j))) :
    Calls Try.prog 22 #[ptr bs, .int .i64 65792, .slice (some ad) n c] w fun e w' => e = .returned (.int .i64 0) ∧ w'.rowIs bb 5 16384 (bts (putLine m ln n)) ∧ w.grownBy w' (some bb) := by
  have Hc := Lib.hid hc
  clear hc
  go_enter Try.func22, Try.ntmps22
  go_wp2_with fail
  refine (reach_open bs bb w.heap.size 1 n (w.alloc (.cells #[.func (.func 31) #[] #[]] 75)) (hs.alloc _) (by omega) (by omega) (by go_simp)).mono ?_
  rintro e w' ⟨rfl, rfl⟩
  rw [Int.toNat_natCast]
  obtain ⟨W1, hW1⟩ : ∃ W1, W1 = w.alloc (.cells #[.func (.func 31) #[] #[]] 75) := ⟨_, rfl⟩
  rw [← hW1]
  have hB1 : Below w.heap.size w W1 := by rw [hW1]; exact (Below.refl _ w).alloc (Nat.le_refl _) _
  clear hW1
  obtain ⟨cur, hcur, hsz, hf⟩ := row_below hb hB1 hb.lt
  have hk1 : (news ln n).length = Nat.min n n := by rw [news_length]; exact (Nat.min_self n).symm
  have hk2 : ∀ j v, (news ln n)[j]? = some v → W1.cell? (ad.add j) = some v := by
    intro j v hv
    have hj : j < n := by
      rcases Nat.lt_or_ge j n with h | h
      · exact h
      · rw [List.getElem?_eq_none (by rw [news_length]; exact h)] at hv; cases hv
    rw [news_get ln n j hj] at hv
    cases hv
    exact cell_later hB1 (Hc.out j hj)
  have hk3 : 256 + (news ln n).length ≤ cur.size := by rw [news_length, hsz]; omega
  have hone : ∀ v ∈ news ln n, v.oneCell' = true := by
    intro u hu
    obtain ⟨j, _, rfl⟩ := List.mem_map.1 hu
    rfl
  have Hcur := Lib.hid hcur
  have Hsz := Lib.hid hsz
  have Hf := Lib.hid hf
  have Hk1 := Lib.hid hk1
  have Hk2 := Lib.hid hk2
  have Hk3 := Lib.hid hk3
  have Hone := Lib.hid hone
  clear hcur hsz hf hk1 hk2 hk3 hone
  go_wp2_with (with_reducible refine wpList_copy_own rfl (.tmp 18) (.tmp 19) 25 25 rfl 5 Try.underlying25 (by kernel_rfl) bb 256 n n ad n c rfl rfl cur 5 Hcur.out (news ln n) Hk1.out Hk2.out Hk3.out Hone.out ?_)
  obtain ⟨W2, hW2⟩ : ∃ W2, W2 = W1.setRow bb (cur.toList.take 256 ++ (news ln n ++ cur.toList.drop (256 + (news ln n).length))).toArray := ⟨_, rfl⟩
  rw [← hW2]
  have hrow : W2.rowIs bb 5 16384 (bts (putLine m ln n)) := by
    rw [hW2]
    refine ⟨_, setRow_heap W1 bb _ _ 5 _ Hcur.out, ?_, fun i hi => ?_⟩
    · have := Hsz.out
      simp [news_length]; omega
    · rw [List.getElem?_toArray]
      exact splice_get (by rw [Array.length_toList]; exact Hsz.out) (fun i hi => by rw [Array.getElem?_toList]; exact Hf.out i hi) i hi
  have hgr : w.grownBy W2 (some bb) := by
    rw [hW2]
    exact ⟨hB1.os, hB1.tape, hB1.output, Nat.le_trans hB1.size (by simp [World.setRow]), fun k hk hne => (setRow_other W1 bb k _ (by intro e; exact hne (by rw [e]))).trans (hB1.block k hk)⟩
  clear hW2
  go_wp2
  go_ret
  exact ⟨rfl, hrow, hgr⟩

set_option maxHeartbeats 1000000 in
theorem put_zero (bs bb c : Nat) (A : Option Addr) (m ln : Nat → Int) (w : World) (hs : Blk w bs 68 (spc bb)) (hb : w.rowIs bb 5 16384 (bts m)) :
    Calls Try.prog 22 #[ptr bs, .int .i64 65792, .slice A 0 c] w fun e w' => e = .returned (.int .i64 0) ∧ w'.rowIs bb 5 16384 (bts (putLine m ln 0)) ∧ w.grownBy w' (some bb) := by
  go_enter Try.func22, Try.ntmps22
  go_wp2_with fail
  refine (reach_none bs bb 65792 _ (w.alloc (.cells #[.func (.func 31) #[] #[]] 75)) (hs.alloc _)).mono ?_
  rintro e w' ⟨rfl, rfl⟩
  obtain ⟨W1, hW1⟩ : ∃ W1, W1 = w.alloc (.cells #[.func (.func 31) #[] #[]] 75) := ⟨_, rfl⟩
  rw [← hW1]
  have hB1 : Below w.heap.size w W1 := by rw [hW1]; exact (Below.refl _ w).alloc (Nat.le_refl _) _
  clear hW1
  go_wp2_with (with_reducible refine wpList_copy_nothing rfl (.tmp 18) (.tmp 19) 25 25 rfl 5 Try.underlying25 (by kernel_rfl) none A 0 0 0 c rfl rfl rfl ?_)
  go_wp2
  go_ret
  refine ⟨rfl, (row_below hb hB1 hb.lt).congr fun i _ => ?_, only_of_below hB1 _⟩
  simp only [bts, putLine]
  rw [if_neg (by omega)]

theorem put_any (bs bb n c : Nat) (A : Option Addr) (m ln : Nat → Int) (w : World) (hs : Blk w bs 68 (spc bb)) (hb : w.rowIs bb 5 16384 (bts m)) (hn : n ≤ 1024) (hr : Reads8 w A n ln) :
    Calls Try.prog 22 #[ptr bs, .int .i64 65792, .slice A n c] w fun e w' => e = .returned (.int .i64 0) ∧ w'.rowIs bb 5 16384 (bts (putLine m ln n)) ∧ w.grownBy w' (some bb) := by
  rcases Nat.eq_zero_or_pos n with rfl | h0
  · exact put_zero bs bb c A m ln w hs hb
  · obtain ⟨ad, rfl, _, hc⟩ := hr h0
    exact put_pos bs bb n c ad m ln w hs hb hn h0 hc

set_option maxHeartbeats 1000000 in
theorem lay_any (bs bb bc n c : Nat) (A : Option Addr) (m ln : Nat → Int) (w : World) (h : Src w bs bb bc 0 0 0 0 m) (hn : n ≤ 1024) (hr : Reads8 w A n ln) :
    Calls Try.prog 9 #[ptr bc, .slice A n c] w fun e w' => ∃ m', e = .returned (.int .i64 0) ∧ St w' bs bb bc n 0 0 ln m' ∧ Only2 bb bc w w' := by
  have hne1 : bs ≠ bb := h.s.ne_row h.b (by decide)
  have hne2 : bc ≠ bb := h.c.ne_row h.b (by decide)
  have hne3 : bs ≠ bc := h.s.ne_ h.c (by decide)
  have hc0 : w.cell? ⟨bc, 0, none⟩ = some (ptr bs) := h.c.cell 0
  have hc1 : w.cell? ⟨bc, 1, none⟩ = some (.int .i64 0) := h.c.cell 1
  go_enter Try.func9, Try.ntmps9
  go_wp2_with (first | (go_at_call 20; go_in) | (go_at_call 21; go_in))
  refine (put_any bs bb n c A m ln w h.s h.b hn hr).mono ?_
  rintro e W1 ⟨rfl, hrow, hg1⟩
  have hb1 : Blk W1 bc 60 (src bs 0 0 0) := h.c.grown hg1 (by simpa using hne2)
  have hs1 : Blk W1 bs 68 (spc bb) := h.s.grown hg1 (by simpa using hne1)
  have hc2 : W1.cell? ⟨bc, 2, none⟩ = some (.int .i64 0) := hb1.cell 2
  have hc3 : W1.cell? ⟨bc, 3, none⟩ = some (.int .i64 0) := hb1.cell 3
  have hc0' : W1.cell? ⟨bc, 0, none⟩ = some (ptr bs) := hb1.cell 0
  have hfz := hb1.frozen
  clear hc0 hc1
  go_wp2_with fail
  obtain ⟨W2, hW2⟩ : ∃ W2, W2 = (W1.setCell ⟨bc, 2, none⟩ (.int .i64 65792)).setCell ⟨bc, 3, none⟩ (.int .i64 n) := ⟨_, rfl⟩
  rw [← hW2]
  have hO2 : Only2 bb bc w W2 := by
    rw [hW2]
    exact ((Only2.of_grown hg1).set (p := ⟨bc, 2, none⟩) (.inr (.inl rfl)) _).set (p := ⟨bc, 3, none⟩) (.inr (.inl rfl)) _
  have hb2 : Blk W2 bc 60 (src bs 65792 n 0) := by
    rw [hW2]
    exact (hb1.set_ 2 _).set_ 3 _
  have hs2 : Blk W2 bs 68 (spc bb) := by
    rw [hW2]
    exact (hs1.far (p := ⟨bc, 2, none⟩) hne3 _).far (p := ⟨bc, 3, none⟩) hne3 _
  have hr2 : W2.rowIs bb 5 16384 (bts (putLine m ln n)) := by
    rw [hW2]
    exact (hrow.setOther (a := ⟨bc, 2, none⟩) (Ne.symm hne2) _).setOther (a := ⟨bc, 3, none⟩) (Ne.symm hne2) _
  clear hW2 hc2 hc3 hc0' hfz
  have h2 : St W2 bs bb bc n 0 0 ln (putLine m ln n) := by
    refine ⟨⟨hs2, hr2, hb2, fun i hi => ?_, by omega⟩, fun k hk => ?_, hn, by omega⟩
    · simp only [putLine]; rw [if_neg (by omega)]; exact h.tin i hi
    · simp only [putLine]; rw [if_pos (by omega), show 256 + k - 256 = k from by omega]
  refine (system_any bs bb 0 _ W2 h2.s h2.b (by omega) (by omega)).mono ?_
  rintro e W3 ⟨rfl, hr3, hg3⟩
  have h3 := h2.stored (t' := 0) hr3 hg3 (by omega)
  go_wp2
  go_ret
  exact ⟨_, rfl, h3, hO2.trans (Only2.of_grown hg3)⟩
end Go.Proofs.Ytcjfeknkjjphfaa
