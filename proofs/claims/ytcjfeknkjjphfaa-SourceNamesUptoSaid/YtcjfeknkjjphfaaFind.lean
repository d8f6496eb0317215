/-
  Source.find tells the first place at which a function value says yes, or the line's end; at every place within the line.
-/
import Derived.Test.YtcjfeknkjjphfaaRead
import Derived.Deep.RegionHeld3
namespace Go.Proofs.Ytcjfeknkjjphfaa
open Go.RowKit

/-- a function value that tells of a byte whether p holds -/
structure Pred (w : World) (K bd : Nat) (p : Int → Bool) : Prop where
  enters : ∀ args w, (callFunc K args).run Try.prog w = .ok (.enter K args) w
  tells : ∀ W x, Below w.heap.size w W → Calls Try.prog K #[.int .u8 x, ptr bd] W fun e w' => e = .returned (.bool (p x)) ∧ W = w'

/-- r is the first place from i on at which p holds; L, if there is none -/
structure Find (p : Int → Bool) (g : Nat → Int) (i L r : Nat) : Prop where
  lo : i ≤ r
  hi : r ≤ L
  no : ∀ k, i ≤ k → k < r → p (g k) = false
  yes : r < L → p (g r) = true

theorem Find.uniq {p : Int → Bool} {g : Nat → Int} {i L r s : Nat} (h : Find p g i L r) (k : Find p g i L s) : r = s := by
  rcases Nat.lt_trichotomy r s with hlt | e | hlt
  · have h1 := h.yes (by have := k.hi; omega)
    have h2 := k.no r h.lo hlt
    rw [h1] at h2; cases h2
  · exact e
  · have h1 := k.yes (by have := h.hi; omega)
    have h2 := h.no s k.lo hlt
    rw [h1] at h2; cases h2

/-- is a byte a delimiter -/
def isD (d : Int) (x : Int) : Bool := x == d || (d == 32 && decide (x < 32))

theorem ret_b {a b : Bool} (h : a = b) : Ending.returned (.bool a) = .returned (.bool b) := by rw [h]

set_option maxHeartbeats 400000 in
theorem delims_any (n : Int) (w : World) :
    Calls Try.prog 33 #[.int .i64 n] w fun e w' => e = .returned (.func (.func 42) #[] #[ptr w.heap.size]) ∧ w.alloc (.cells #[.int .u8 (n % 256)] 5) = w' := by
  go_enter Try.func33, Try.ntmps33
  go_wp2
  go_ret
  exact ⟨rfl, rfl⟩

set_option maxHeartbeats 400000 in
theorem is42 (bd : Nat) (d x : Int) (w : World) (hd : w.cell? ⟨bd, 0, none⟩ = some (.int .u8 d)) :
    Calls Try.prog 42 #[.int .u8 x, ptr bd] w fun e w' => e = .returned (.bool (isD d x)) ∧ w = w' := by
  go_enter Try.func42, Try.ntmps42
  go_wp2
  all_goals (go_ret; refine ⟨ret_b ?_, rfl⟩)
  all_goals simp [isD, *]

set_option maxHeartbeats 400000 in
theorem is35 (bi K bd : Nat) (p : Int → Bool) (x : Int) (w0 w : World) (hp : Pred w0 K bd p) (hB : Below w0.heap.size w0 w) (hd : w.cell? ⟨bi, 0, none⟩ = some (.func (.func K) #[] #[ptr bd])) :
    Calls Try.prog 35 #[.int .u8 x, ptr bi] w fun e w' => e = .returned (.bool (!p x)) ∧ w = w' := by
  have he := hp.enters
  have ht := hp.tells w x hB
  have hnot : ∀ (x : Bool) (w : World), (Op.unary .not (.bool x)).run Try.prog w = .ok (.bool (!x)) w := fun _ _ => rfl
  go_enter Try.func35, Try.ntmps35
  go_wp2_with fail
  refine ht.mono ?_
  rintro e w' ⟨rfl, rfl⟩
  go_wp2
  go_ret
  exact ⟨rfl, rfl⟩

theorem enters35 : ∀ args w, (callFunc 35 args).run Try.prog w = .ok (.enter 35 args) w := enters_of Try.func35 (by kernel_rfl) rfl
theorem enters42 : ∀ args w, (callFunc 42 args).run Try.prog w = .ok (.enter 42 args) w := enters_of Try.func42 (by kernel_rfl) rfl

theorem pred42 (bd : Nat) (d : Int) (w : World) (hd : w.cell? ⟨bd, 0, none⟩ = some (.int .u8 d)) : Pred w 42 bd (isD d) :=
  ⟨enters42, fun W x hB => is42 bd d x W (cell_later hB hd)⟩
theorem pred35 (bi K bd : Nat) (p : Int → Bool) (w : World) (hp : Pred w K bd p) (hd : w.cell? ⟨bi, 0, none⟩ = some (.func (.func K) #[] #[ptr bd])) : Pred w 35 bi (fun x => !p x) :=
  ⟨enters35, fun W x hB => is35 bi K bd p x w W hp hB (cell_later hB hd)⟩
theorem Pred.later {w w' : World} {K bd : Nat} {p : Int → Bool} (h : Pred w K bd p) (hB : Below w.heap.size w w') : Pred w' K bd p :=
  ⟨h.enters, fun W x hB' => h.tells W x (hB.trans (hB'.mono hB.size))⟩

/-- the source with a line laid: the bytes ln of the line, L of them, t read. -/
structure St (w : World) (bs bb bc L : Nat) (inn : Int) (t : Nat) (ln m : Nat → Int) : Prop extends Src w bs bb bc 65792 L inn t m where
  line : ∀ k, k < L → m (256 + k) = ln k
  hL : L ≤ 1024
  ht : t ≤ L

theorem St.below {w w' : World} {bs bb bc L t : Nat} {inn : Int} {ln m : Nat → Int} (h : St w bs bb bc L inn t ln m) (hB : Below w.heap.size w w') : St w' bs bb bc L inn t ln m :=
  ⟨h.toSrc.below hB h.s.lt h.b.lt h.c.lt, h.line, h.hL, h.ht⟩

set_option maxHeartbeats 1000000 in
theorem find_pos (bs bb bc L t K bd : Nat) (inn i : Int) (ln m : Nat → Int) (p : Int → Bool) (w : World) (h : St w bs bb bc L inn t ln m) (hp : Pred w K bd p) (h0 : 0 ≤ i) (h1 : i < L) :
    Calls Try.prog 34 #[ptr bc, .int .i64 i, .func (.func K) #[] #[ptr bd]] w fun e w' => ∃ r : Nat, e = .returned (.int .i64 (r : Int)) ∧ Find p ln i.toNat L r ∧ Below w.heap.size w w' := by
  obtain ⟨j, rfl⟩ : ∃ j : Nat, i = (j : Int) := ⟨i.toNat, by omega⟩
  rw [Int.toNat_natCast]
  have hjL : (j : Int) < (L : Int) := h1
  have hL := h.hL
  go_enter Try.func34, Try.ntmps34
  go_wp2_with fail
  refine (inside_any bs bb bc L inn _ h.s h.c h.hL).mono ?_
  rintro e w' ⟨rfl, nq, rfl⟩
  obtain ⟨W1, hW1⟩ : ∃ W1, W1 = w.drewN nq := ⟨_, rfl⟩
  rw [← hW1]
  have hB1 : Below w.heap.size w W1 := by rw [hW1]; exact below_drewN (Below.refl _ w) nq
  clear hW1
  have h' := h.below hB1
  have hc0 := h'.c.cell 0
  have hc2 := h'.c.cell 2
  have hc3 := h'.c.cell 3
  simp only [src] at hc0 hc2 hc3
  go_wp2_with fail
  have hc0' : W1.cell? ⟨bc, 0, none⟩ = some (ptr bs) := hc0
  have hc2' : W1.cell? ⟨bc, 2, none⟩ = some (.int .i64 65792) := hc2
  clear hc0 hc2 hc3
  have e1 : IntKind.i64.wrap (65792 + (j : Int)) = 65792 + (j : Int) := IntWalk.i64_in _ (by omega)
  have e2 : IntKind.i64.wrap ((L : Int) - (j : Int)) = (L : Int) - (j : Int) := IntWalk.i64_in _ (by omega)
  have hcall := bytes_pos bs bb (65792 + (j : Int)) ((L : Int) - (j : Int)) m W1.drew h'.s.drew h'.b.drew (by omega) (by omega) (by omega)
  have Hcall := Lib.hid hcall
  clear hcall
  go_region_held3 (fun W => W.cell? ⟨bc, 0, none⟩ = some (ptr bs) ∧ W.cell? ⟨bc, 2, none⟩ = some (.int .i64 65792)) (go_keep)
    (first | (go_at_call 11; refine Hcall.out.mono ?_; rintro e w2 ⟨g, c, rfl, hg1, hg2, hg3, hB2⟩; have hx0 : w2.cell? ⟨bc, 0, none⟩ = some (ptr bs) := cell_later hB2 hc0'; have hx2 : w2.cell? ⟨bc, 2, none⟩ = some (.int .i64 65792) := cell_later hB2 hc2'))
  have hB : Below w.heap.size w w2 := hB1.trans (((Below.refl _ W1).drew.trans hB2).mono hB1.size)
  obtain ⟨N, hN⟩ : ∃ N, N = L - j := ⟨_, rfl⟩
  rw [← hN]
  have hcell : ∀ k, k < N → w2.cell? ⟨g, k, none⟩ = some (.int .u8 (ln (j + k))) := by
    intro k hk
    rw [hg3 k (by omega), show (65792 + (j : Int) - 65536).toNat + k = 256 + (j + k) from by omega, h'.line _ (by omega)]
  have hN1 : N + j = L := by omega
  have HN := Lib.hid hN1
  have hN2 : N ≤ 1024 := by omega
  have hp2 := hp.later hB
  have Hent := Lib.hid hp2.enters
  have Hcell := Lib.hid hcell
  clear Hcall hg3 e1 e2 hx0 hx2 hc0' hc2' hB2 hB1 hN hN1 hcell h' hp hg1 hg2
  go_wp2
  go_loop [54] (fun i => ∃ k : Nat, k ≤ N ∧ i = .int .i64 k ∧ ∀ q, q < k → p (ln (j + q)) = false) (fun i => N - (intOf i).toNat)
  case atStart => exact ⟨0, Nat.zero_le _, rfl, fun q hq => by omega⟩
  case round =>
    obtain ⟨k, hk, rfl, hno⟩ := hrel
    have Hno := Lib.hid hno
    clear hno
    by_cases hlt : k < N
    · have hck := Hcell.out k hlt
      have ht := hp2.tells w2 (ln (j + k)) (Below.refl _ _)
      cases hpx : p (ln (j + k)) with
      | true =>
        rw [hpx] at ht
        have Hpx := Lib.hid hpx
        clear hpx
        have he := Hent.out
        have HT := Lib.hid ht
        clear ht
        go_wp2_with fail
        refine HT.out.mono ?_
        rintro e w' ⟨rfl, rfl⟩
        go_wp2
        go_ret
        refine ⟨j + k, by simp, ⟨by omega, by have := HN.out; omega, fun q h1 h2 => ?_, fun _ => Hpx.out⟩, hB⟩
        have := Hno.out (q - j) (by omega)
        rwa [show j + (q - j) = q from by omega] at this
      | false =>
        rw [hpx] at ht
        have Hpx := Lib.hid hpx
        clear hpx
        have he := Hent.out
        have HT := Lib.hid ht
        clear ht
        go_wp2_with fail
        refine HT.out.mono ?_
        rintro e w' ⟨rfl, rfl⟩
        go_wp2
        go_round
        case rel =>
          refine ⟨k + 1, by omega, by go_num, fun q hq => ?_⟩
          rcases Nat.lt_or_ge q k with h2 | h2
          · exact Hno.out q h2
          · rw [show q = k from by omega]; exact Hpx.out
        case measure => simp [intOf]; omega
    · obtain rfl : k = N := by omega
      go_wp2
      go_ret
      refine ⟨L, rfl, ⟨by omega, Nat.le_refl _, fun q h1 h2 => ?_, fun h => absurd h (by omega)⟩, hB⟩
      have := Hno.out (q - j) (by have := HN.out; omega)
      rwa [show j + (q - j) = q from by omega] at this

set_option maxHeartbeats 1000000 in
theorem find_end (bs bb bc L t K bd : Nat) (inn : Int) (ln m : Nat → Int) (p : Int → Bool) (w : World) (h : St w bs bb bc L inn t ln m) :
    Calls Try.prog 34 #[ptr bc, .int .i64 (L : Int), .func (.func K) #[] #[ptr bd]] w fun e w' => ∃ r : Nat, e = .returned (.int .i64 (r : Int)) ∧ Find p ln L L r ∧ Below w.heap.size w w' := by
  have hL := h.hL
  go_enter Try.func34, Try.ntmps34
  go_wp2_with fail
  refine (inside_any bs bb bc L inn _ h.s h.c h.hL).mono ?_
  rintro e w' ⟨rfl, nq, rfl⟩
  obtain ⟨W1, hW1⟩ : ∃ W1, W1 = w.drewN nq := ⟨_, rfl⟩
  rw [← hW1]
  have hB1 : Below w.heap.size w W1 := by rw [hW1]; exact below_drewN (Below.refl _ w) nq
  clear hW1
  have h' := h.below hB1
  have hc3 := h'.c.cell 3
  simp only [src] at hc3
  go_wp2
  go_ret
  exact ⟨L, rfl, ⟨Nat.le_refl _, Nat.le_refl _, fun q h1 h2 => by omega, fun h => absurd h (by omega)⟩, hB1⟩

theorem find_any (bs bb bc L t K bd : Nat) (inn i : Int) (ln m : Nat → Int) (p : Int → Bool) (w : World) (h : St w bs bb bc L inn t ln m) (hp : Pred w K bd p) (h0 : 0 ≤ i) (h1 : i ≤ L) :
    Calls Try.prog 34 #[ptr bc, .int .i64 i, .func (.func K) #[] #[ptr bd]] w fun e w' => ∃ r : Nat, e = .returned (.int .i64 (r : Int)) ∧ Find p ln i.toNat L r ∧ Below w.heap.size w w' := by
  by_cases hlt : i < L
  · exact find_pos bs bb bc L t K bd inn i ln m p w h hp h0 hlt
  · obtain rfl : i = (L : Int) := by omega
    rw [Int.toNat_natCast]
    exact find_end bs bb bc L t K bd inn ln m p w h
end Go.Proofs.Ytcjfeknkjjphfaa
