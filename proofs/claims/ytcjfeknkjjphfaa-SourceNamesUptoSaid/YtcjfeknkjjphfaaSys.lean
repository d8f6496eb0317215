/-
  Space.System stores the eight bytes of ToIn and nothing else; at a number from 0 to 2000000.
-/
import Derived.Test.YtcjfeknkjjphfaaReach
namespace Go.Proofs.Ytcjfeknkjjphfaa
open Go.RowKit

/-- byte i of a number -/
def tb (v : Nat) (i : Nat) : Int := ((v / 256 ^ i % 256 : Nat) : Int)
/-- the first k bytes of ToIn stored -/
def putIn (m : Nat → Int) (v k : Nat) : Nat → Int := fun j => if 16 ≤ j ∧ j < 16 + k then tb v (j - 16) else m j
def bts (m : Nat → Int) : Nat → Value := fun j => .int .u8 (m j)

theorem tb_eq (n k : Nat) : (n : Int) / 2 ^ (8 * k) % 256 = tb n k := by
  have h : (2 : Int) ^ (8 * k) = ((256 ^ k : Nat) : Int) := by
    rw [Int.pow_mul]; simp [Int.natCast_pow]
  unfold tb
  rw [h]
  omega

theorem putIn_step (m : Nat → Int) (n k : Nat) (i : Nat) : (if i = 16 + k then Value.int .u8 ((n : Int) / 2 ^ (8 * k) % 256) else bts (putIn m n k) i) = bts (putIn m n (k + 1)) i := by
  unfold bts putIn
  by_cases h : i = 16 + k
  · subst h
    rw [if_pos rfl, if_pos (by omega), tb_eq, show 16 + k - 16 = k by omega]
  · rw [if_neg h]
    by_cases h2 : 16 ≤ i ∧ i < 16 + k
    · rw [if_pos h2, if_pos (by omega)]
    · rw [if_neg h2, if_neg (by omega)]

set_option maxHeartbeats 1000000 in
theorem system_any (bs bb : Nat) (v : Int) (m : Nat → Int) (w : World) (hs : Blk w bs 68 (spc bb)) (hb : w.rowIs bb 5 16384 (bts m)) (hv : 0 ≤ v) (hv2 : v ≤ 2000000) :
    Calls Try.prog 23 #[ptr bs, .int .i64 65552, .int .i64 v] w fun e w' => e = .returned (.tuple #[]) ∧ w'.rowIs bb 5 16384 (bts (putIn m v.toNat 8)) ∧ w.grownBy w' (some bb) := by
  obtain ⟨n, rfl⟩ : ∃ n : Nat, v = (n : Int) := ⟨v.toNat, by omega⟩
  go_enter Try.func23, Try.ntmps23
  go_wp2_with (go_at_call 32; refine (aligned_any _ _).mono ?_; rintro e w' ⟨rfl, rfl⟩)
  refine (reach_aligned bs bb _ w.heap.size 1 _ ((hs.alloc _).alloc _) (by go_simp) (by go_simp)).mono ?_
  rintro e w' ⟨rfl, rfl⟩
  go_wp2
  go_loopw [8, 19] (fun _ i wr => ∃ k : Nat, k ≤ 8 ∧ i = .int .i64 k ∧ wr.rowIs bb 5 16384 (bts (putIn m n k)) ∧ w.grownBy wr (some bb)) (fun _ i _ => 8 - (intOf i).toNat)
  case atStart => exact ⟨0, by omega, rfl, ((hb.alloc _).alloc _).congr (fun i _ => by simp [bts, putIn]; omega), only_alloc (only_alloc (World.grownBy.refl _ _) _) _⟩
  case round =>
    obtain ⟨k, hk, rfl, hr, hg⟩ := hrel
    by_cases hlt : k < 8
    · have hc := hr.cell (i := 16 + k) (by omega)
      have hf := hr.frozen (16 + k)
      simp only [bts] at hc
      go_wp2
      refine ⟨⟨k + 1, by omega, by go_num, (hr.set (16 + k) _).congr (fun i _ => putIn_step m n k i), only_setCell hg (.inl rfl) _⟩, by simp [intOf]; omega⟩
    · obtain rfl : k = 8 := by omega
      go_wp2
      go_end0
      exact ⟨rfl, by rw [Int.toNat_natCast]; exact hr, hg⟩
end Go.Proofs.Ytcjfeknkjjphfaa
