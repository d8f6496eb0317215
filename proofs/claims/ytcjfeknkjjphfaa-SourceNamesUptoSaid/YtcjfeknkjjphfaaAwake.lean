/-
  awake returns true, and writes nothing that was there; no condition.
-/
import Derived.Test.YtcjfeknkjjphfaaBegun
import Derived.Test.YtcjfeknkjjphfaaLeft
import Derived.Laws.BytesArg
import Derived.Lib.SlBytesConst
namespace Go.Proofs.Ytcjfeknkjjphfaa
open Go.RowKit

/-- awake's line: '  ab c' -/
def awl : Nat → Int := fun j => [32, 32, 97, 98, 32, 99].getD j 0

theorem awl_i {i : Nat} (h : Find (fun x => !isD 32 x) awl 0 6 i) : i = 2 :=
  h.uniq ⟨by omega, by omega, fun k _ h2 => by match k, h2 with | 0, _ => rfl | 1, _ => rfl, fun _ => rfl⟩
theorem awl_r {r : Nat} (h : Find (isD 32) awl 2 6 r) : r = 4 :=
  h.uniq ⟨by omega, by omega, fun k h1 h2 => by match k, h1, h2 with | 2, _, _ => rfl | 3, _, _ => rfl, fun _ => rfl⟩

set_option maxHeartbeats 1000000 in
theorem awake_any (w : World) :
    Calls Try.prog 7 #[] w fun e w' => e = .returned (.bool true) ∧ Below w.heap.size w w' := by
  have kc := fun (w : World) (C : Array Value) (n c : Nat) => Lib.run_convert_bytes_const (P := Try.prog) w 25 5 C n c Try.underlying25 Try.underlying5
  go_enter Try.func7, Try.ntmps7
  go_wp2_with fail
  refine (begun_any w).mono ?_
  rintro e W1 ⟨bx, bs, bb, bc, q, r, m, rfl, hb, hB1⟩
  have hx0 : W1.cell? ⟨bx, 0, none⟩ = some (ptr bs) := hb.x.cell 0
  have hx1 : W1.cell? ⟨bx, 1, none⟩ = some (ptr bc) := hb.x.cell 1
  go_wp2_with fail
  obtain ⟨W2, hW2⟩ : ∃ W2, W2 = W1.alloc (.cells #[.int .u8 32, .int .u8 32, .int .u8 97, .int .u8 98, .int .u8 32, .int .u8 99] 5 (6, 7)) := ⟨_, rfl⟩
  have hB2 : Below W1.heap.size W1 W2 := by rw [hW2]; exact (Below.refl _ W1).alloc (Nat.le_refl _) _
  have hrd : Reads8 W2 (some ⟨W1.heap.size, 0, none⟩) 6 awl := by
    intro _
    refine ⟨_, rfl, by rw [hW2]; simp, fun j hj => ?_⟩
    rw [addr_add, hW2, Nat.zero_add, World.cell?_alloc_mark]
    match j, hj with
    | 0, _ => rfl
    | 1, _ => rfl
    | 2, _ => rfl
    | 3, _ => rfl
    | 4, _ => rfl
    | 5, _ => rfl
  rw [← hW2]
  clear hW2 kc
  have s2 : Src W2 bs bb bc 0 0 0 0 m := hb.s.below hB2 hb.s.s.lt hb.s.b.lt hb.s.c.lt
  refine (lay_any bs bb bc 6 6 _ m awl W2 s2 (by omega) hrd).mono ?_
  rintro e W3 ⟨m3, rfl, h3, hO3⟩
  have hx3 : Blk W3 bx 33 #[ptr bs, ptr bc, ptr q, ptr r] := by
    have h2 := hb.x.below hB2 hb.x.lt
    exact hO3.blk h2 (h2.ne_row s2.b (by decide)) (h2.ne_ s2.c (by decide))
  have hx1' : W3.cell? ⟨bx, 1, none⟩ = some (ptr bc) := hx3.cell 1
  clear hx0 hx1
  go_wp2_with fail
  refine (name_any bs bb bc 6 0 0 awl m3 W3 h3).mono ?_
  rintro e W4 ⟨i, r4, m4, rfl, hf1, hf2, h4, hg4⟩
  obtain rfl := awl_i hf1
  obtain rfl := awl_r hf2
  have hx4 : Blk W4 bx 33 #[ptr bs, ptr bc, ptr q, ptr r] := hx3.grown hg4 (by simpa using hx3.ne_row h3.b (by decide))
  have hx1'' : W4.cell? ⟨bx, 1, none⟩ = some (ptr bc) := hx4.cell 1
  clear hf1 hf2 hx1'
  go_wp2_with fail
  refine (left_any bs bb bc 6 5 0 awl m4 W4 h4).mono ?_
  rintro e W5 ⟨g, c, rfl, hg5, hc5, hB5⟩
  have hcv := run_convert_bytes_arg (P := Try.prog) W5 25 5 Try.underlying25 Try.underlying5 g 0 1 c [99] rfl (fun i hi => by
    obtain rfl : i = 0 := by omega
    rw [Nat.zero_add, hc5 0 (by omega)]
    rfl) 9 Try.underlying9
  have e99 : strOfNums [99] = ⟨#[99]⟩ := by decide
  rw [e99] at hcv
  clear hc5 e99
  go_wp2
  go_ret
  refine ⟨rfl, ?_⟩
  have z1 := hB1.size
  have z2 := hB2.size
  have b2 : Below w.heap.size w W2 := hB1.trans (hB2.mono z1)
  have b3 : Below w.heap.size w W3 := b2.trans (hO3.below b2.size hb.lb hb.lc)
  have b4 : Below w.heap.size w W4 := b3.trans ((Only2.of_grown (c := bc) hg4).below b3.size hb.lb hb.lc)
  exact b4.trans (hB5.mono b4.size)
end Go.Proofs.Ytcjfeknkjjphfaa
