/-
  piece, Parse, Skip and Name tell where a piece stands and how long it is, and store where reading goes on; with a line laid.
-/
import Derived.Test.YtcjfeknkjjphfaaFind
import Derived.Laws.EntriesVeiled
namespace Go.Proofs.Ytcjfeknkjjphfaa
open Go.RowKit

/-- where reading goes on -/
def nxt (r L : Nat) : Nat := if r < L then r + 1 else r
theorem nxt_lt {r L : Nat} (h : r < L) : nxt r L = r + 1 := by simp [nxt, h]
theorem nxt_ge {r L : Nat} (h : ¬ r < L) : nxt r L = r := by simp [nxt, h]

/-- ToIn stored anew. -/
theorem St.stored {w w' : World} {bs bb bc L t t' : Nat} {inn : Int} {ln m : Nat → Int} (h : St w bs bb bc L inn t ln m) (hr : w'.rowIs bb 5 16384 (bts (putIn m t' 8))) (hg : w.grownBy w' (some bb)) (ht : t' ≤ L) : St w' bs bb bc L inn t' ln (putIn m t' 8) := by
  have hne1 : bs ≠ bb := h.s.ne_row h.b (by decide)
  have hne2 : bc ≠ bb := h.c.ne_row h.b (by decide)
  refine ⟨⟨h.s.grown hg (by simpa using hne1), hr, h.c.grown hg (by simpa using hne2), fun i hi => ?_, by have := h.hL; omega⟩, fun k hk => ?_, h.hL, ht⟩
  · simp only [putIn]; rw [if_pos (by omega), show 16 + i - 16 = i from by omega]
  · simp only [putIn]; rw [if_neg (by omega)]; exact h.line k hk

set_option maxHeartbeats 1000000 in
theorem piece_any (bs bb bc L t : Nat) (inn i d : Int) (ln m : Nat → Int) (w : World) (h : St w bs bb bc L inn t ln m) (h0 : 0 ≤ i) (h1 : i ≤ L) :
    Calls Try.prog 27 #[ptr bc, .int .i64 i, .int .i64 d] w fun e w' => ∃ (r : Nat) (m' : Nat → Int), e = .returned (.tuple #[.int .i64 (65792 + i), .int .i64 (r - i)]) ∧ Find (isD (d % 256)) ln i.toNat L r ∧ St w' bs bb bc L inn (nxt r L) ln m' ∧ w.grownBy w' (some bb) := by
  have hL := h.hL
  go_enter Try.func27, Try.ntmps27
  go_wp2_with fail
  refine (delims_any _ _).mono ?_
  rintro e w' ⟨rfl, rfl⟩
  obtain ⟨W1, hW1⟩ : ∃ W1, W1 = w.alloc (.cells #[.int .u8 (d % 256)] 5) := ⟨_, rfl⟩
  rw [← hW1]
  have hB1 : Below w.heap.size w W1 := by rw [hW1]; exact (Below.refl _ w).alloc (Nat.le_refl _) _
  have hp : Pred W1 42 w.heap.size (isD (d % 256)) := pred42 _ _ _ (by rw [hW1]; go_simp)
  clear hW1
  have h' := h.below hB1
  go_wp2_with fail
  refine (find_any bs bb bc L t 42 w.heap.size inn i ln m (isD (d % 256)) W1 h' hp h0 h1).mono ?_
  rintro e W2 ⟨r, rfl, hf, hB2⟩
  have hB : Below w.heap.size w W2 := hB1.trans (hB2.mono hB1.size)
  have h2 := h.below hB
  have hc0 := h2.c.cell 0
  have hc3 := h2.c.cell 3
  simp only [src] at hc0 hc3
  have hlo := hf.lo
  have hhi := hf.hi
  have hO : w.grownBy W2 (some bb) := only_of_below hB _
  by_cases hlt : r < L
  · go_wp2_with fail
    refine (system_any bs bb _ m W2 h2.s h2.b (by omega) (by omega)).mono ?_
    rintro e W3 ⟨rfl, hr, hg⟩
    rw [show ((r : Int) + 1).toNat = r + 1 from by omega] at hr
    have h3 := h2.stored hr hg (by omega)
    have hk2 := h3.c.cell 2
    simp only [src] at hk2
    have HF := Lib.hid hf
    clear hf hc0 hc3
    go_wp2
    go_ret2
    exact ⟨r, _, rfl, HF.out, by rw [nxt_lt hlt]; exact h3, only_trans hO hg⟩
  · go_wp2_with fail
    refine (system_any bs bb _ m W2 h2.s h2.b (by omega) (by omega)).mono ?_
    rintro e W3 ⟨rfl, hr, hg⟩
    rw [Int.toNat_natCast] at hr
    have h3 := h2.stored hr hg (by omega)
    have hk2 := h3.c.cell 2
    simp only [src] at hk2
    have HF := Lib.hid hf
    clear hf hc0 hc3
    go_wp2
    go_ret2
    exact ⟨r, _, rfl, HF.out, by rw [nxt_ge hlt]; exact h3, only_trans hO hg⟩

set_option maxHeartbeats 1000000 in
theorem parse_any (bs bb bc L t : Nat) (inn d : Int) (ln m : Nat → Int) (w : World) (h : St w bs bb bc L inn t ln m) :
    Calls Try.prog 13 #[ptr bc, .int .i64 d] w fun e w' => ∃ (r : Nat) (m' : Nat → Int), e = .returned (.tuple #[.int .i64 (65792 + (t : Int)), .int .i64 (r - t)]) ∧ Find (isD (d % 256)) ln t L r ∧ St w' bs bb bc L inn (nxt r L) ln m' ∧ w.grownBy w' (some bb) := by
  have hL := h.hL
  have ht := h.ht
  have hc0 := h.c.cell 0
  simp only [src] at hc0
  go_enter Try.func13, Try.ntmps13
  go_wp2_with (go_at_call 20; go_in)
  refine (in_any bs bb bc t 65792 L inn m _ h.toSrc (by omega)).mono ?_
  rintro e W1 ⟨rfl, hB⟩
  go_wp2_with fail
  refine (piece_any bs bb bc L t inn t d ln m W1 (h.below hB) (by omega) (by omega)).mono ?_
  rintro e W2 ⟨r, m', rfl, hf, hst, hg⟩
  rw [Int.toNat_natCast] at hf
  have HF := Lib.hid hf
  clear hf
  go_wp2
  go_ret2
  exact ⟨r, m', rfl, HF.out, hst, only_trans (only_of_below hB _) hg⟩

set_option maxHeartbeats 1000000 in
theorem skip_any (bs bb bc L t : Nat) (inn d : Int) (ln m : Nat → Int) (w : World) (h : St w bs bb bc L inn t ln m) :
    Calls Try.prog 24 #[ptr bc, .int .i64 d] w fun e w' => ∃ (i r : Nat) (m' : Nat → Int), e = .returned (.tuple #[.int .i64 (65792 + (i : Int)), .int .i64 (r - i)]) ∧ Find (fun x => !isD (d % 256) x) ln t L i ∧ Find (isD (d % 256)) ln i L r ∧ St w' bs bb bc L inn (nxt r L) ln m' ∧ w.grownBy w' (some bb) := by
  have hL := h.hL
  have ht := h.ht
  have hmf : ∀ (fn : Fn) (first cap : Array Value) (w : World), (Instr.makeFunc fn first cap).run Try.prog w = .ok (.func fn first cap) w := fun _ _ _ _ => rfl
  have hc0 := h.c.cell 0
  simp only [src] at hc0
  go_enter Try.func24, Try.ntmps24
  go_wp2_with (go_at_call 20; go_in)
  refine (delims_any _ _).mono ?_
  rintro e w' ⟨rfl, rfl⟩
  go_wp2_with fail
  obtain ⟨W1, hW1⟩ : ∃ W1, W1 = (w.alloc (.cells #[.int .u8 (d % 256)] 5)).alloc (.cells #[.func (.func 42) #[] #[ptr w.heap.size]] 77) := ⟨_, rfl⟩
  rw [← hW1]
  have hB1 : Below w.heap.size w W1 := by rw [hW1]; exact ((Below.refl _ w).alloc (Nat.le_refl _) _).alloc (by simp) _
  have hp : Pred W1 35 (w.heap.size + 1) (fun x => !isD (d % 256) x) := by
    refine pred35 _ 42 w.heap.size _ _ (pred42 _ _ _ (by rw [hW1]; go_simp)) (by rw [hW1]; go_simp)
  clear hW1 hc0
  have h1 := h.below hB1
  refine (in_any bs bb bc t 65792 L inn m _ h1.toSrc (by omega)).mono ?_
  rintro e W2 ⟨rfl, hB2⟩
  have h2 := h1.below hB2
  go_wp2_with fail
  refine (find_any bs bb bc L t 35 (w.heap.size + 1) inn t ln m (fun x => !isD (d % 256) x) W2 h2 (hp.later hB2) (by omega) (by omega)).mono ?_
  rintro e W3 ⟨i, rfl, hf, hB3⟩
  rw [Int.toNat_natCast] at hf
  have h3 := h2.below hB3
  have hi := hf.hi
  have HF := Lib.hid hf
  clear hf
  have hc0 := h3.c.cell 0
  simp only [src] at hc0
  go_wp2_with fail
  refine (system_any bs bb _ m W3 h3.s h3.b (by omega) (by omega)).mono ?_
  rintro e W4 ⟨rfl, hr, hg⟩
  rw [Int.toNat_natCast] at hr
  have h4 := h3.stored hr hg (by omega)
  clear hc0
  go_wp2_with fail
  refine (piece_any bs bb bc L i inn i d ln _ W4 h4 (by omega) (by omega)).mono ?_
  rintro e W5 ⟨r, m', rfl, hf, hst, hg5⟩
  rw [Int.toNat_natCast] at hf
  have HF2 := Lib.hid hf
  clear hf
  go_wp2
  go_ret2
  exact ⟨i, r, m', rfl, HF.out, HF2.out, hst, only_trans (only_trans (only_of_below (hB1.trans ((hB2.trans (hB3.mono hB2.size)).mono hB1.size)) _) hg) hg5⟩

set_option maxHeartbeats 1000000 in
theorem name_any (bs bb bc L t : Nat) (inn : Int) (ln m : Nat → Int) (w : World) (h : St w bs bb bc L inn t ln m) :
    Calls Try.prog 10 #[ptr bc] w fun e w' => ∃ (i r : Nat) (m' : Nat → Int), e = .returned (.tuple #[.int .i64 (65792 + (i : Int)), .int .i64 (r - i)]) ∧ Find (fun x => !isD 32 x) ln t L i ∧ Find (isD 32) ln i L r ∧ St w' bs bb bc L inn (nxt r L) ln m' ∧ w.grownBy w' (some bb) := by
  go_enter Try.func10, Try.ntmps10
  go_wp2_with fail
  refine (skip_any bs bb bc L t inn 32 ln m w h).mono ?_
  rintro e W5 ⟨i, r, m', rfl, hf, hf2, hst, hg5⟩
  have HF := Lib.hid hf
  have HF2 := Lib.hid hf2
  clear hf hf2
  go_wp2
  go_ret2
  exact ⟨i, r, m', rfl, HF.out, HF2.out, hst, hg5⟩
end Go.Proofs.Ytcjfeknkjjphfaa
