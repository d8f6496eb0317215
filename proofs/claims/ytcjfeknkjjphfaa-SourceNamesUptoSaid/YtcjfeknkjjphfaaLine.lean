/-
  The line that SourceNames lays: its names, the blanks between, and what reading finds in it.
-/
import Derived.Test.YtcjfeknkjjphfaaPieces
import Derived.Lib.AppendStr
namespace Go.Proofs.Ytcjfeknkjjphfaa
open Go.RowKit

/-- a string's bytes as numbers, a row of bytes as cells -/
def byt (s : ByteArray) : List Int := s.data.toList.map fun b => (b.toNat : Int)
def u8s (l : List Int) : List Value := l.map fun x => Value.int .u8 x

theorem byt_length (s : ByteArray) : (byt s).length = s.size := by
  simp only [byt, List.length_map, Array.length_toList]
  rfl
theorem u8s_length (l : List Int) : (u8s l).length = l.length := by simp [u8s]
theorem u8s_append (l k : List Int) : u8s (l ++ k) = u8s l ++ u8s k := by simp [u8s]
theorem u8s_byt (s : ByteArray) : Lib.strCells s = u8s (byt s) := by simp [Lib.strCells, u8s, byt]
theorem u8s_get (l : List Int) (j : Nat) (h : j < l.length) : (u8s l)[j]? = some (.int .u8 (l.getD j 0)) := by
  simp [u8s, List.getD, h]
theorem str_byt (s : ByteArray) : strOfNums (byt s) = s := by
  obtain ⟨a⟩ := s
  simp [strOfNums, byt, Function.comp_def]

theorem ix_str (s : ByteArray) (k : Nat) (h : k < s.size) (W : World) : (Instr.index 9 (.string s) (.int .i64 k)).run Try.prog W = .ok (.int .u8 ((byt s).getD k 0)) W := by
  rw [run_index_string (P := Try.prog) W 9 s .i64 k Try.underlying9, dif_pos ⟨by omega, by omega⟩]
  simp [byt, List.getD, ByteArray.getElem_eq_getElem_data]
  rw [Array.getElem?_eq_getElem (by simpa using h)]
  rfl

/-- the first k names' letters -/
def tot (s : Nat → ByteArray) : Nat → Nat
  | 0 => 0
  | k + 1 => tot s k + (s k).size
theorem tot_le (s : Nat → ByteArray) {k n : Nat} (h : k ≤ n) : tot s k ≤ tot s n := by
  induction n with
  | zero => obtain rfl : k = 0 := by omega
            exact Nat.le_refl _
  | succ n ih =>
    rcases Nat.lt_or_ge k (n + 1) with h1 | h1
    · have := ih (by omega)
      simp only [tot]; omega
    · obtain rfl : k = n + 1 := by omega
      exact Nat.le_refl _

/-- names of which none is empty, and that hold no blank -/
def Good (s : Nat → ByteArray) (k : Nat) : Prop := ∀ j, j < k → 0 < (s j).size ∧ ∀ q, q < (s j).size → 32 < (byt (s j)).getD q 0
theorem Good.snoc {s : Nat → ByteArray} {k : Nat} (h : Good s k) (h0 : 0 < (s k).size) (h1 : ∀ q, q < (s k).size → 32 < (byt (s k)).getD q 0) : Good s (k + 1) := fun j hj => by
  rcases Nat.lt_or_ge j k with h2 | h2
  · exact h j h2
  · obtain rfl : j = k := by omega
    exact ⟨h0, h1⟩

/-- k names, blanks ahead of each -/
inductive Bld (s : Nat → ByteArray) : Nat → List Int → Prop
  | nil : Bld s 0 []
  | cons {k : Nat} {bl sp : List Int} : Bld s k bl → sp ≠ [] → (∀ x ∈ sp, isD 32 x = true) → Bld s (k + 1) (bl ++ sp ++ byt (s k))

/-- where each name ends (E) and begins (S) -/
structure Laid (s : Nat → ByteArray) (n : Nat) (bl : List Int) (E S : Nat → Nat) : Prop where
  e0 : E 0 = 0
  len : E n = bl.length
  es : ∀ k, k < n → E k < S k
  se : ∀ k, k < n → S k + (s k).size = E (k + 1)
  le : ∀ k, k < n → S k + (s k).size ≤ bl.length
  sep : ∀ k, k < n → ∀ j, E k ≤ j → j < S k → isD 32 (bl.getD j 0) = true
  name : ∀ k, k < n → ∀ j, j < (s k).size → bl.getD (S k + j) 0 = (byt (s k)).getD j 0

theorem gd_left (a b : List Int) (j : Nat) (h : j < a.length) : (a ++ b).getD j 0 = a.getD j 0 := by
  simp [List.getD, List.getElem?_append_left h]
theorem gd_right (a b : List Int) (j : Nat) : (a ++ b).getD (a.length + j) 0 = b.getD j 0 := by
  simp [List.getD, List.getElem?_append_right]
theorem gd_mem (a : List Int) (j : Nat) (h : j < a.length) : a.getD j 0 ∈ a := by
  simp [List.getD, h]

theorem Bld.laid {s : Nat → ByteArray} {n : Nat} {bl : List Int} (h : Bld s n bl) : ∃ E S, Laid s n bl E S := by
  induction h with
  | nil => exact ⟨fun _ => 0, fun _ => 0, rfl, rfl, fun _ h => by omega, fun _ h => by omega, fun _ h => by omega, fun _ h => by omega, fun _ h => by omega⟩
  | @cons k bl sp _ hne hsp ih =>
    obtain ⟨E, S, hl⟩ := ih
    have hpos : 0 < sp.length := List.length_pos_iff.2 hne
    have hlen : (bl ++ sp ++ byt (s k)).length = bl.length + sp.length + (s k).size := by simp only [List.length_append, byt_length]
    refine ⟨fun j => if j ≤ k then E j else (bl ++ sp ++ byt (s k)).length, fun j => if j < k then S j else bl.length + sp.length, ?_, ?_, ?_, ?_, ?_, ?_, ?_⟩
    · simp [hl.e0]
    · simp only [if_neg (show ¬ k + 1 ≤ k from by omega)]
    · intro j hj
      have h1 := hl.len
      by_cases h2 : j < k
      · simp only [if_pos h2, if_pos (show j ≤ k from by omega)]
        exact hl.es j h2
      · obtain rfl : j = k := by omega
        simp only [if_neg h2, Nat.le_refl, if_true]
        omega
    · intro j hj
      by_cases h2 : j < k
      · simp only [if_pos h2, if_pos (show j + 1 ≤ k from by omega)]
        exact hl.se j h2
      · obtain rfl : j = k := by omega
        simp only [if_neg h2, if_neg (show ¬ j + 1 ≤ j from by omega)]
        omega
    · intro j hj
      by_cases h2 : j < k
      · simp only [if_pos h2]
        have := hl.le j h2
        omega
      · obtain rfl : j = k := by omega
        simp only [if_neg h2]
        omega
    · intro j hj p hp1 hp2
      by_cases h2 : j < k
      · simp only [if_pos h2, if_pos (show j ≤ k from by omega)] at hp1 hp2
        have := hl.le j h2
        rw [List.append_assoc, gd_left _ _ _ (by omega)]
        exact hl.sep j h2 p hp1 hp2
      · obtain rfl : j = k := by omega
        simp only [if_neg h2, Nat.le_refl, if_true] at hp1 hp2
        have h1 := hl.len
        obtain ⟨x, rfl⟩ : ∃ x, p = bl.length + x := ⟨p - bl.length, by omega⟩
        rw [List.append_assoc, gd_right, gd_left _ _ _ (by omega)]
        exact hsp _ (gd_mem _ _ (by omega))
    · intro j hj p hp
      by_cases h2 : j < k
      · simp only [if_pos h2]
        have := hl.le j h2
        rw [List.append_assoc, gd_left _ _ _ (by omega)]
        exact hl.name j h2 p hp
      · obtain rfl : j = k := by omega
        simp only [if_neg h2]
        rw [← List.length_append, gd_right]

theorem Laid.last {s : Nat → ByteArray} {n : Nat} {bl : List Int} {E S : Nat → Nat} (h : Laid s n bl E S) {k : Nat} (hk : k ≤ n) (hlt : E k < bl.length) : k < n := by
  rcases Nat.lt_or_ge k n with h1 | h1
  · exact h1
  · obtain rfl : k = n := by omega
    have := h.len
    omega

/-- what reading finds -/
theorem Laid.reads {s : Nat → ByteArray} {n : Nat} {bl : List Int} {E S : Nat → Nat} (h : Laid s n bl E S) {k : Nat} (hk : k < n) (hp : 0 < (s k).size) (hg : ∀ q, q < (s k).size → 32 < (byt (s k)).getD q 0) {t i r : Nat} (h1 : E k ≤ t) (h2 : t ≤ E k + 1)
    (hf1 : Find (fun x => !isD 32 x) (fun j => bl.getD j 0) t bl.length i) (hf2 : Find (isD 32) (fun j => bl.getD j 0) i bl.length r) : i = S k ∧ r = E (k + 1) := by
  have hes := h.es k hk
  have hse := h.se k hk
  have hle := h.le k hk
  have hno : ∀ q, q < (s k).size → isD 32 (bl.getD (S k + q) 0) = false := by
    intro q hq
    rw [h.name k hk q hq]
    have := hg q hq
    have e1 : ((byt (s k)).getD q 0 == 32) = false := by
      rw [beq_eq_false_iff_ne]; omega
    have e2 : decide ((byt (s k)).getD q 0 < 32) = false := by
      rw [decide_eq_false_iff_not]; omega
    unfold isD
    rw [e1, e2]; rfl
  have ei : i = S k := by
    refine hf1.uniq ⟨by omega, by omega, fun p hp1 hp2 => ?_, fun _ => ?_⟩
    · have := h.sep k hk p (by omega) hp2
      simp only [this]; rfl
    · have := hno 0 hp
      rw [Nat.add_zero] at this
      simp only [this]; rfl
  subst ei
  refine ⟨rfl, hf2.uniq ⟨by omega, by omega, fun p hp1 hp2 => ?_, fun hlt => ?_⟩⟩
  · obtain ⟨q, rfl⟩ : ∃ q, p = S k + q := ⟨p - S k, by omega⟩
    exact hno q (by omega)
  · have hk1 := h.last (k := k + 1) (by omega) hlt
    exact h.sep (k + 1) hk1 _ (Nat.le_refl _) (h.es (k + 1) hk1)

/-- the strings of a slice -/
def ReadsS (w : World) (A : Option Addr) (n : Nat) (s : Nat → ByteArray) : Prop := 0 < n → ∃ ad : Addr, A = some ad ∧ ad.block < w.heap.size ∧ ∀ j, j < n → w.cell? (ad.add j) = some (.string (s j))

theorem ix22 (ad : Addr) (n c k : Nat) (h : k < n) (W : World) : (Instr.indexAt 22 (.slice (some ad) n c) (.int .i64 k)).run Try.prog W = .ok (.pointer (some (ad.add k))) W := by
  have h' : (k : Int) < (n : Int) := by omega
  simp [go_sem, h']

/-- a row of bytes of the call's own, as a slice that is read -/
theorem own_reads {w : World} {base : Nat} {v : Value} {bl : List Int} (h : w.ownsRow base 5 1 v bl.length (u8s bl)) : ∃ A c, v = .slice A bl.length c ∧ Reads8 w A bl.length (fun j => bl.getD j 0) := by
  have hc := h
  rcases h.2 with ⟨rfl, h0⟩ | ⟨g, cap, cur, rfl, hb, hg, _⟩
  · refine ⟨none, 0, by rw [h0], fun h1 => by omega⟩
  · refine ⟨_, _, rfl, fun h1 => ⟨⟨g, 0, none⟩, rfl, ?_, fun j hj => ?_⟩⟩
    · rcases Nat.lt_or_ge g w.heap.size with hlt | hge
      · exact hlt
      · rw [Array.getElem?_eq_none hge] at hg; cases hg
    · exact hc.cells (g := g) rfl j _ (u8s_get bl j hj)
end Go.Proofs.Ytcjfeknkjjphfaa
