/-
  The walk of SourceNames: it returns true, and writes nothing that was there; at names of 1048576 letters together at the most, and at every slice of ints.
-/
import Derived.Test.YtcjfeknkjjphfaaLine
namespace Go.Proofs.Ytcjfeknkjjphfaa
open Go.RowKit

set_option maxRecDepth 100000 in
set_option maxHeartbeats 1000000 in
theorem names_out (A A1 : Option Addr) (N cap D cap1 : Nat) (w : World) (hN : N ≤ 9223372036854775807) (hD : D ≤ 9223372036854775807) (h : 100 < N ∨ 100 < D) :
    Calls Try.prog 3 #[.slice A N cap, .slice A1 D cap1] w fun e w' => e = .returned (.bool true) ∧ Below w.heap.size w w' := by
  have hA := awake_any w
  have HA := Lib.hid hA
  clear hA
  by_cases h1 : 100 < N
  · go_enter Try.func3, Try.ntmps3
    go_wp2_with (go_at_call 7; refine HA.out.mono ?_; rintro e W ⟨rfl, hB⟩)
    go_ret
    exact ⟨rfl, hB⟩
  · have h2 : 100 < D := by omega
    go_enter Try.func3, Try.ntmps3
    go_wp2_with (go_at_call 7; refine HA.out.mono ?_; rintro e W ⟨rfl, hB⟩)
    go_ret
    exact ⟨rfl, hB⟩

set_option maxRecDepth 100000 in
set_option maxHeartbeats 4000000 in
theorem names_in (A A1 : Option Addr) (N cap D cap1 : Nat) (s : Nat → ByteArray) (ds : Nat → Int) (w : World) (hN : N ≤ 100) (hD : D ≤ 100) (hT : tot s N ≤ 1048576) (hr : ReadsS w A N s) (hi : ReadsI w A1 D ds) :
    Calls Try.prog 3 #[.slice A N cap, .slice A1 D cap1] w fun e w' => e = .returned (.bool true) ∧ Below w.heap.size w w' := by
  obtain ⟨i0, hi0, hz0, hz1, hz2⟩ := info_parts info5
  have Hi := Lib.hid hi0
  have Hz0 := Lib.hid hz0
  have Hz1 := Lib.hid hz1
  have Hz2 := Lib.hid hz2
  clear hi0 hz0 hz1 hz2
  have HI := Lib.hid hi
  clear hi
  go_enter Try.func3, Try.ntmps3
  go_wp2_with fail
  go_loopw [5, 6] (fun a i wr => ∃ k : Nat, k ≤ N ∧ i = .int .i64 k ∧ Below w.heap.size w wr ∧ ∃ bl, wr.ownsRow w.heap.size 5 1 a bl.length (u8s bl) ∧ Bld s k bl ∧ bl.length ≤ 6 * k + tot s k ∧ Good s k) (fun _ i _ => N - (intOf i).toNat)
  case atStart => exact ⟨0, Nat.zero_le _, rfl, Below.refl _ _, [], World.ownsRow_nil _ _ _ _, Bld.nil, Nat.zero_le _, fun j hj => by omega⟩
  case round =>
    obtain ⟨k, hk, rfl, hB, bl, hown, hbld, hlen, hgood⟩ := hrel
    have HB := Lib.hid hB
    have HO := Lib.hid hown
    have HBL := Lib.hid hbld
    have HG := Lib.hid hgood
    have htk := tot_le s hk
    clear hown hbld hgood
    by_cases hlt : k < N
    · obtain ⟨ad, hA, hab, hcd⟩ := hr (by omega)
      have hix : ∀ W, (Instr.indexAt 22 (.slice A N cap) (.int .i64 k)).run Try.prog W = .ok (.pointer (some (ad.add k))) W := by
        intro W; rw [hA]; exact ix22 ad N cap k hlt W
      have hck0 : w.cell? (ad.add k) = some (.string (s k)) := hcd k hlt
      have htk1 := tot_le s (show k + 1 ≤ N from hlt)
      simp only [tot] at htk1
      have HS : ∃ sk, sk = s k := ⟨_, rfl⟩
      obtain ⟨sk, hsk⟩ := HS
      rw [← hsk] at hck0 htk1
      have HSK := Lib.hid hsk
      obtain ⟨ak, hak⟩ : ∃ ak, ak = ad.add k := ⟨_, rfl⟩
      rw [← hak] at hix hck0
      have hal : ak.block < w.heap.size := by rw [hak, block_of_add]; exact hab
      have hck : wr.cell? ak = some (.string sk) := (hB.cell (p := ak) hal).trans hck0
      clear hA hab hcd hak hsk
      by_cases h0 : sk.size = 0
      · go_wp2_with fail
        refine (awake_any wr).mono ?_
        rintro e W11 ⟨rfl, hB11⟩
        go_wp2
        go_ret
        exact ⟨rfl, hB.trans (hB11.mono hB.size)⟩
      · go_wp2_with fail
        go_loop [7] (fun i => ∃ q : Nat, q ≤ sk.size ∧ i = .int .i64 q ∧ ∀ j, j < q → 32 < (byt sk).getD j 0) (fun i => sk.size - (intOf i).toNat)
        case atStart => exact ⟨0, Nat.zero_le _, rfl, fun j hj => by omega⟩
        case round =>
          obtain ⟨q, hq, rfl, hb⟩ := hrel
          have HBB := Lib.hid hb
          clear hb
          by_cases hql : q < sk.size
          · have hiy := ix_str sk q hql
            obtain ⟨x, hx⟩ : ∃ x, x = (byt sk).getD q 0 := ⟨_, rfl⟩
            rw [← hx] at hiy
            have HX := Lib.hid hx
            clear hx
            by_cases hx32 : x ≤ 32
            · go_wp2_with fail
              refine (awake_any wr).mono ?_
              rintro e W11 ⟨rfl, hB11⟩
              go_wp2
              go_ret
              exact ⟨rfl, hB.trans (hB11.mono hB.size)⟩
            · go_wp2
              go_round
              case rel => exact ⟨q + 1, by omega, by go_num, fun j hj => by
                rcases Nat.lt_or_ge j q with h1 | h1
                · exact HBB.out j h1
                · obtain rfl : j = q := by omega
                  rw [← HX.out]; omega⟩
              case measure => simp [intOf]; omega
          · obtain rfl : q = sk.size := by omega
            have hg1 := HG.out.snoc (by rw [← HSK.out]; omega) (by rw [← HSK.out]; exact HBB.out)
            have HG1 := Lib.hid hg1
            clear hg1
            have z0 := hB.size
            go_wp2_with (at_builtin; refine wpList_append_lies _ rfl (.tmp 56) (.tmp 57) 25 rfl w.heap.size 5 i0 (.int .u8 0) 1 1 Try.underlying25 Hi.out Hz0.out Hz1.out Hz2.out rfl (by decide) u5 bl.length (u8s bl) rfl (HO.out.alloc _) ⟨wr.heap.size, 0, none⟩ 1 1 [.int .u8 32] rfl rfl (cell_one_new _ _ _) (by simp [Value.oneCell']) (by omega) (by unfold maxLen; omega) (by omega) (by simp; omega) (wr.heap.size + 1) (by simp) ?_)
            intro g1 c1 W3 hown3 hgr3 hat3 hlt3
            have hB0 := hB.alloc z0 (.cells #[.int .u8 32] 5)
            have hB3 := hB0.grown hgr3 hB0.size (fun k e => ((HO.out.alloc (.cells #[.int .u8 32] 5)).lt k e).1)
            have hown3' : W3.ownsRow w.heap.size 5 1 (.slice (some ⟨g1, 0, none⟩) (bl.length + 1) c1) (bl ++ [32]).length (u8s (bl ++ [32])) := by
              rw [u8s_append, List.length_append]; exact hown3
            clear hown3 hgr3 hat3 hlt3 hB0
            go_wp2_with fail
            go_loopw [5, 8] (fun a i wr => ∃ q : Nat, q ≤ 5 ∧ i = .int .i64 q ∧ Below w.heap.size w wr ∧ ∃ sp : List Int, sp ≠ [] ∧ (∀ x ∈ sp, isD 32 x = true) ∧ sp.length = q + 1 ∧ wr.ownsRow w.heap.size 5 1 a (bl ++ sp).length (u8s (bl ++ sp))) (fun _ i _ => 5 - (intOf i).toNat)
            case atStart => exact ⟨0, by omega, rfl, hB3, [32], by simp, by simp [isD], rfl, hown3'⟩
            case round =>
              obtain ⟨q, hq, rfl, hBr, sp, hne, hsp, hsl, hown⟩ := hrel
              have Hne := Lib.hid hne
              have Hsp := Lib.hid hsp
              obtain ⟨n3, hn3⟩ : ∃ n3, n3 = (bl ++ sp).length := ⟨_, rfl⟩
              rw [← hn3] at hown
              have hn3l : n3 ≤ bl.length + 6 := by rw [hn3, List.length_append, hsl]; omega
              have HO3 := Lib.hid hown
              have Hn3 := Lib.hid hn3
              have Hsl := Lib.hid hsl
              have z3 := hBr.size
              have hckr : wr.cell? ak = some (.string sk) := (hBr.cell (p := ak) hal).trans hck0
              clear hown hne hsp hck hown3' hn3 hsl
              by_cases hkD : k < D
              · obtain ⟨ad1, hA1, hab, hcd⟩ := HI.out (by omega)
                have hix1 : ∀ W, (Instr.indexAt 23 (.slice A1 D cap1) (.int .i64 k)).run Try.prog W = .ok (.pointer (some (ad1.add k))) W := by
                  intro W; rw [hA1]; exact ix23 ad1 D cap1 k hkD W
                have hck1 : wr.cell? (ad1.add k) = some (.int .i64 (ds k)) := (hBr.cell (p := ad1.add k) (by rw [block_of_add]; exact hab)).trans (hcd k hkD)
                obtain ⟨a1, ha1⟩ : ∃ a1, a1 = ad1.add k := ⟨_, rfl⟩
                obtain ⟨dk, hdk⟩ : ∃ dk, dk = ds k := ⟨_, rfl⟩
                rw [← ha1] at hix1 hck1
                rw [← hdk] at hck1
                clear hA1 hab hcd ha1 hdk
                by_cases hqd : (q : Int) < dk
                · by_cases hq5 : q < 5
                  · rcases (show q = 0 ∨ q = 1 ∨ q = 2 ∨ q = 3 ∨ q = 4 from by omega) with rfl | rfl | rfl | rfl | rfl
                    · go_wp2_with (at_builtin; refine wpList_append_lies _ rfl (.tmp 77) (.tmp 87) 25 rfl w.heap.size 5 i0 (.int .u8 0) 1 1 Try.underlying25 Hi.out Hz0.out Hz1.out Hz2.out rfl (by decide) u5 n3 (u8s (bl ++ sp)) rfl (HO3.out.alloc _) ⟨wr.heap.size, 0, none⟩ 1 1 [.int .u8 32] rfl rfl (cell_one_new _ _ _) (by simp [Value.oneCell']) (by omega) (by unfold maxLen; omega) (by omega) (by simp; omega) (wr.heap.size + 1) (by simp) ?_)
                      intro g5 c5 W5 hown5 hgr5 hat5 hlt5
                      have hB5 := (hBr.alloc z3 (.cells #[.int .u8 32] 5)).grown hgr5 ((hBr.alloc z3 _).size) (fun k e => ((HO3.out.alloc (.cells #[.int .u8 32] 5)).lt k e).1)
                      have hown6 : W5.ownsRow w.heap.size 5 1 (.slice (some ⟨g5, 0, none⟩) (n3 + 1) c5) (bl ++ (sp ++ [32])).length (u8s (bl ++ (sp ++ [32]))) := by
                        have e6 : (bl ++ (sp ++ [(32 : Int)])).length = n3 + 1 := by rw [← List.append_assoc, List.length_append, ← Hn3.out]; rfl
                        rw [e6, ← List.append_assoc, u8s_append]
                        exact hown5
                      have hsp6 : ∀ x ∈ sp ++ [(32 : Int)], isD 32 x = true := by
                        intro x hx
                        rcases List.mem_append.1 hx with h1 | h1
                        · exact Hsp.out x h1
                        · rw [List.mem_singleton.1 h1]; rfl
                      have hne6 : sp ++ [(32 : Int)] ≠ [] := by simp
                      have hl6 : (sp ++ [(32 : Int)]).length = 0 + 1 + 1 := by rw [List.length_append, Hsl.out]; rfl
                      have HO6 := Lib.hid hown6
                      have HS6 := Lib.hid hsp6
                      clear hown5 hown6 hsp6 hgr5 hat5 hlt5
                      go_wp2
                      go_roundw
                      case rel => exact ⟨0 + 1, by omega, by go_num, hB5, sp ++ [32], hne6, HS6.out, hl6, HO6.out⟩
                      case measure => simp [intOf]
                    · go_wp2_with (at_builtin; refine wpList_append_lies _ rfl (.tmp 77) (.tmp 87) 25 rfl w.heap.size 5 i0 (.int .u8 0) 1 1 Try.underlying25 Hi.out Hz0.out Hz1.out Hz2.out rfl (by decide) u5 n3 (u8s (bl ++ sp)) rfl (HO3.out.alloc _) ⟨wr.heap.size, 0, none⟩ 1 1 [.int .u8 9] rfl rfl (cell_one_new _ _ _) (by simp [Value.oneCell']) (by omega) (by unfold maxLen; omega) (by omega) (by simp; omega) (wr.heap.size + 1) (by simp) ?_)
                      intro g5 c5 W5 hown5 hgr5 hat5 hlt5
                      have hB5 := (hBr.alloc z3 (.cells #[.int .u8 9] 5)).grown hgr5 ((hBr.alloc z3 _).size) (fun k e => ((HO3.out.alloc (.cells #[.int .u8 9] 5)).lt k e).1)
                      have hown6 : W5.ownsRow w.heap.size 5 1 (.slice (some ⟨g5, 0, none⟩) (n3 + 1) c5) (bl ++ (sp ++ [9])).length (u8s (bl ++ (sp ++ [9]))) := by
                        have e6 : (bl ++ (sp ++ [(9 : Int)])).length = n3 + 1 := by rw [← List.append_assoc, List.length_append, ← Hn3.out]; rfl
                        rw [e6, ← List.append_assoc, u8s_append]
                        exact hown5
                      have hsp6 : ∀ x ∈ sp ++ [(9 : Int)], isD 32 x = true := by
                        intro x hx
                        rcases List.mem_append.1 hx with h1 | h1
                        · exact Hsp.out x h1
                        · rw [List.mem_singleton.1 h1]; rfl
                      have hne6 : sp ++ [(9 : Int)] ≠ [] := by simp
                      have hl6 : (sp ++ [(9 : Int)]).length = 1 + 1 + 1 := by rw [List.length_append, Hsl.out]; rfl
                      have HO6 := Lib.hid hown6
                      have HS6 := Lib.hid hsp6
                      clear hown5 hown6 hsp6 hgr5 hat5 hlt5
                      go_wp2
                      go_roundw
                      case rel => exact ⟨1 + 1, by omega, by go_num, hB5, sp ++ [9], hne6, HS6.out, hl6, HO6.out⟩
                      case measure => simp [intOf]
                    · go_wp2_with (at_builtin; refine wpList_append_lies _ rfl (.tmp 77) (.tmp 87) 25 rfl w.heap.size 5 i0 (.int .u8 0) 1 1 Try.underlying25 Hi.out Hz0.out Hz1.out Hz2.out rfl (by decide) u5 n3 (u8s (bl ++ sp)) rfl (HO3.out.alloc _) ⟨wr.heap.size, 0, none⟩ 1 1 [.int .u8 32] rfl rfl (cell_one_new _ _ _) (by simp [Value.oneCell']) (by omega) (by unfold maxLen; omega) (by omega) (by simp; omega) (wr.heap.size + 1) (by simp) ?_)
                      intro g5 c5 W5 hown5 hgr5 hat5 hlt5
                      have hB5 := (hBr.alloc z3 (.cells #[.int .u8 32] 5)).grown hgr5 ((hBr.alloc z3 _).size) (fun k e => ((HO3.out.alloc (.cells #[.int .u8 32] 5)).lt k e).1)
                      have hown6 : W5.ownsRow w.heap.size 5 1 (.slice (some ⟨g5, 0, none⟩) (n3 + 1) c5) (bl ++ (sp ++ [32])).length (u8s (bl ++ (sp ++ [32]))) := by
                        have e6 : (bl ++ (sp ++ [(32 : Int)])).length = n3 + 1 := by rw [← List.append_assoc, List.length_append, ← Hn3.out]; rfl
                        rw [e6, ← List.append_assoc, u8s_append]
                        exact hown5
                      have hsp6 : ∀ x ∈ sp ++ [(32 : Int)], isD 32 x = true := by
                        intro x hx
                        rcases List.mem_append.1 hx with h1 | h1
                        · exact Hsp.out x h1
                        · rw [List.mem_singleton.1 h1]; rfl
                      have hne6 : sp ++ [(32 : Int)] ≠ [] := by simp
                      have hl6 : (sp ++ [(32 : Int)]).length = 2 + 1 + 1 := by rw [List.length_append, Hsl.out]; rfl
                      have HO6 := Lib.hid hown6
                      have HS6 := Lib.hid hsp6
                      clear hown5 hown6 hsp6 hgr5 hat5 hlt5
                      go_wp2
                      go_roundw
                      case rel => exact ⟨2 + 1, by omega, by go_num, hB5, sp ++ [32], hne6, HS6.out, hl6, HO6.out⟩
                      case measure => simp [intOf]
                    · go_wp2_with (at_builtin; refine wpList_append_lies _ rfl (.tmp 77) (.tmp 87) 25 rfl w.heap.size 5 i0 (.int .u8 0) 1 1 Try.underlying25 Hi.out Hz0.out Hz1.out Hz2.out rfl (by decide) u5 n3 (u8s (bl ++ sp)) rfl (HO3.out.alloc _) ⟨wr.heap.size, 0, none⟩ 1 1 [.int .u8 9] rfl rfl (cell_one_new _ _ _) (by simp [Value.oneCell']) (by omega) (by unfold maxLen; omega) (by omega) (by simp; omega) (wr.heap.size + 1) (by simp) ?_)
                      intro g5 c5 W5 hown5 hgr5 hat5 hlt5
                      have hB5 := (hBr.alloc z3 (.cells #[.int .u8 9] 5)).grown hgr5 ((hBr.alloc z3 _).size) (fun k e => ((HO3.out.alloc (.cells #[.int .u8 9] 5)).lt k e).1)
                      have hown6 : W5.ownsRow w.heap.size 5 1 (.slice (some ⟨g5, 0, none⟩) (n3 + 1) c5) (bl ++ (sp ++ [9])).length (u8s (bl ++ (sp ++ [9]))) := by
                        have e6 : (bl ++ (sp ++ [(9 : Int)])).length = n3 + 1 := by rw [← List.append_assoc, List.length_append, ← Hn3.out]; rfl
                        rw [e6, ← List.append_assoc, u8s_append]
                        exact hown5
                      have hsp6 : ∀ x ∈ sp ++ [(9 : Int)], isD 32 x = true := by
                        intro x hx
                        rcases List.mem_append.1 hx with h1 | h1
                        · exact Hsp.out x h1
                        · rw [List.mem_singleton.1 h1]; rfl
                      have hne6 : sp ++ [(9 : Int)] ≠ [] := by simp
                      have hl6 : (sp ++ [(9 : Int)]).length = 3 + 1 + 1 := by rw [List.length_append, Hsl.out]; rfl
                      have HO6 := Lib.hid hown6
                      have HS6 := Lib.hid hsp6
                      clear hown5 hown6 hsp6 hgr5 hat5 hlt5
                      go_wp2
                      go_roundw
                      case rel => exact ⟨3 + 1, by omega, by go_num, hB5, sp ++ [9], hne6, HS6.out, hl6, HO6.out⟩
                      case measure => simp [intOf]
                    · go_wp2_with (at_builtin; refine wpList_append_lies _ rfl (.tmp 77) (.tmp 87) 25 rfl w.heap.size 5 i0 (.int .u8 0) 1 1 Try.underlying25 Hi.out Hz0.out Hz1.out Hz2.out rfl (by decide) u5 n3 (u8s (bl ++ sp)) rfl (HO3.out.alloc _) ⟨wr.heap.size, 0, none⟩ 1 1 [.int .u8 32] rfl rfl (cell_one_new _ _ _) (by simp [Value.oneCell']) (by omega) (by unfold maxLen; omega) (by omega) (by simp; omega) (wr.heap.size + 1) (by simp) ?_)
                      intro g5 c5 W5 hown5 hgr5 hat5 hlt5
                      have hB5 := (hBr.alloc z3 (.cells #[.int .u8 32] 5)).grown hgr5 ((hBr.alloc z3 _).size) (fun k e => ((HO3.out.alloc (.cells #[.int .u8 32] 5)).lt k e).1)
                      have hown6 : W5.ownsRow w.heap.size 5 1 (.slice (some ⟨g5, 0, none⟩) (n3 + 1) c5) (bl ++ (sp ++ [32])).length (u8s (bl ++ (sp ++ [32]))) := by
                        have e6 : (bl ++ (sp ++ [(32 : Int)])).length = n3 + 1 := by rw [← List.append_assoc, List.length_append, ← Hn3.out]; rfl
                        rw [e6, ← List.append_assoc, u8s_append]
                        exact hown5
                      have hsp6 : ∀ x ∈ sp ++ [(32 : Int)], isD 32 x = true := by
                        intro x hx
                        rcases List.mem_append.1 hx with h1 | h1
                        · exact Hsp.out x h1
                        · rw [List.mem_singleton.1 h1]; rfl
                      have hne6 : sp ++ [(32 : Int)] ≠ [] := by simp
                      have hl6 : (sp ++ [(32 : Int)]).length = 4 + 1 + 1 := by rw [List.length_append, Hsl.out]; rfl
                      have HO6 := Lib.hid hown6
                      have HS6 := Lib.hid hsp6
                      clear hown5 hown6 hsp6 hgr5 hat5 hlt5
                      go_wp2
                      go_roundw
                      case rel => exact ⟨4 + 1, by omega, by go_num, hB5, sp ++ [32], hne6, HS6.out, hl6, HO6.out⟩
                      case measure => simp [intOf]
                  · obtain rfl : q = 5 := by omega
                    go_wp2_with (at_builtin; refine Lib.wpList_append_own_string _ rfl (.tmp 89) (.tmp 93) 25 9 rfl w.heap.size 5 i0 Try.underlying25 Try.underlying9 Hi.out Hz0.out Hz1.out Hz2.out u5 n3 (u8s (bl ++ sp)) rfl HO3.out sk rfl (by unfold maxLen; omega) (by omega) (by omega) ?_)
                    intro v4 W4 hown4 hgr4 hnil4
                    have hB4 : Below w.heap.size w W4 := hBr.grown hgr4 hBr.size (fun k e => (HO3.out.lt k e).1)
                    have he4 : n3 + sk.size = (bl ++ sp ++ byt sk).length := by rw [List.length_append, ← Hn3.out, byt_length]
                    rw [u8s_byt, ← u8s_append, he4] at hown4
                    have hbld4 : Bld s (k + 1) (bl ++ sp ++ byt sk) := by rw [HSK.out]; exact Bld.cons HBL.out Hne.out Hsp.out
                    have hlen4 : (bl ++ sp ++ byt sk).length ≤ 6 * (k + 1) + tot s (k + 1) := by
                      rw [← he4]
                      simp only [tot]
                      rw [← HSK.out]
                      omega
                    have HB4 := Lib.hid hbld4
                    have HO4 := Lib.hid hown4
                    clear hbld4 hown4 hgr4 hnil4 he4
                    go_wp2
                    go_roundw
                    case rel => exact ⟨k + 1, by omega, by go_num, hB4, bl ++ sp ++ byt sk, HO4.out, HB4.out, hlen4, HG1.out⟩
                    case measure => simp [intOf]; omega
                · go_wp2_with (at_builtin; refine Lib.wpList_append_own_string _ rfl (.tmp 89) (.tmp 93) 25 9 rfl w.heap.size 5 i0 Try.underlying25 Try.underlying9 Hi.out Hz0.out Hz1.out Hz2.out u5 n3 (u8s (bl ++ sp)) rfl HO3.out sk rfl (by unfold maxLen; omega) (by omega) (by omega) ?_)
                  intro v4 W4 hown4 hgr4 hnil4
                  have hB4 : Below w.heap.size w W4 := hBr.grown hgr4 hBr.size (fun k e => (HO3.out.lt k e).1)
                  have he4 : n3 + sk.size = (bl ++ sp ++ byt sk).length := by rw [List.length_append, ← Hn3.out, byt_length]
                  rw [u8s_byt, ← u8s_append, he4] at hown4
                  have hbld4 : Bld s (k + 1) (bl ++ sp ++ byt sk) := by rw [HSK.out]; exact Bld.cons HBL.out Hne.out Hsp.out
                  have hlen4 : (bl ++ sp ++ byt sk).length ≤ 6 * (k + 1) + tot s (k + 1) := by
                    rw [← he4]
                    simp only [tot]
                    rw [← HSK.out]
                    omega
                  have HB4 := Lib.hid hbld4
                  have HO4 := Lib.hid hown4
                  clear hbld4 hown4 hgr4 hnil4 he4
                  go_wp2
                  go_roundw
                  case rel => exact ⟨k + 1, by omega, by go_num, hB4, bl ++ sp ++ byt sk, HO4.out, HB4.out, hlen4, HG1.out⟩
                  case measure => simp [intOf]; omega
              · go_wp2_with (at_builtin; refine Lib.wpList_append_own_string _ rfl (.tmp 89) (.tmp 93) 25 9 rfl w.heap.size 5 i0 Try.underlying25 Try.underlying9 Hi.out Hz0.out Hz1.out Hz2.out u5 n3 (u8s (bl ++ sp)) rfl HO3.out sk rfl (by unfold maxLen; omega) (by omega) (by omega) ?_)
                intro v4 W4 hown4 hgr4 hnil4
                have hB4 : Below w.heap.size w W4 := hBr.grown hgr4 hBr.size (fun k e => (HO3.out.lt k e).1)
                have he4 : n3 + sk.size = (bl ++ sp ++ byt sk).length := by rw [List.length_append, ← Hn3.out, byt_length]
                rw [u8s_byt, ← u8s_append, he4] at hown4
                have hbld4 : Bld s (k + 1) (bl ++ sp ++ byt sk) := by rw [HSK.out]; exact Bld.cons HBL.out Hne.out Hsp.out
                have hlen4 : (bl ++ sp ++ byt sk).length ≤ 6 * (k + 1) + tot s (k + 1) := by
                  rw [← he4]
                  simp only [tot]
                  rw [← HSK.out]
                  omega
                have HB4 := Lib.hid hbld4
                have HO4 := Lib.hid hown4
                clear hbld4 hown4 hgr4 hnil4 he4
                go_wp2
                go_roundw
                case rel => exact ⟨k + 1, by omega, by go_num, hB4, bl ++ sp ++ byt sk, HO4.out, HB4.out, hlen4, HG1.out⟩
                case measure => simp [intOf]; omega
    · obtain rfl : k = N := by omega
      obtain ⟨AL, cl, rfl, hrd⟩ := own_reads HO.out
      obtain ⟨n, hn⟩ : ∃ n, n = bl.length := ⟨_, rfl⟩
      rw [← hn] at hrd hlen
      have hL64 : n ≤ 9223372036854775807 := by omega
      by_cases hL : n ≤ 1024
      · rw [← hn]
        have Hn := Lib.hid hn
        have HRD := Lib.hid hrd
        clear hn hrd HO
        go_wp2_with fail
        refine (begun_any wr).mono ?_
        rintro e W1 ⟨bx, bs, bb, bc, q, r, m1, rfl, hb, hB1⟩
        have hx0 : W1.cell? ⟨bx, 0, none⟩ = some (ptr bs) := hb.x.cell 0
        have hx1 : W1.cell? ⟨bx, 1, none⟩ = some (ptr bc) := hb.x.cell 1
        go_wp2_with fail
        refine (lay_any bs bb bc n cl AL m1 (fun j => bl.getD j 0) W1 hb.s hL (HRD.out.below hB1)).mono ?_
        rintro e W2 ⟨m2, rfl, h2, hO2⟩
        have hrun : Run w W2 bx bs bb bc q r n 0 0 (fun j => bl.getD j 0) m2 :=
          ⟨h2, hO2.blk hb.x (hb.x.ne_row hb.s.b (by decide)) (hb.x.ne_ hb.s.c (by decide)), hB.trans ((hB1.trans (hO2.below hB1.size hb.lb hb.lc)).mono hB.size), Nat.le_trans hB.size hb.lb, Nat.le_trans hB.size hb.lc⟩
        obtain ⟨E, S, hlaid⟩ := HBL.out.laid
        have HL := Lib.hid hlaid
        have hE0 := hlaid.e0
        have hEN := hlaid.len
        rw [← Hn.out] at hEN
        clear hx0 hx1 hb hB1 h2 hO2 hlaid
        go_wp2_with fail
        go_loopw [10] (fun i wr => ∃ p : Nat, p ≤ k ∧ i = .int .i64 p ∧ ∃ (t : Nat) (m' : Nat → Int), E p ≤ t ∧ t ≤ E p + 1 ∧ Run w wr bx bs bb bc q r n 0 t (fun j => bl.getD j 0) m') (fun i _ => k - (intOf i).toNat)
        case atStart => exact ⟨0, Nat.zero_le _, rfl, 0, m2, by omega, by omega, hrun⟩
        case round =>
          obtain ⟨p, hp, rfl, t, m3, ht1, ht2, hr3⟩ := hrel
          have hx1 : wr.cell? ⟨bx, 1, none⟩ = some (ptr bc) := hr3.x.cell 1
          by_cases hplt : p < k
          · go_wp2_with fail
            refine (name_any bs bb bc n t 0 (fun j => bl.getD j 0) m3 wr hr3.st).mono ?_
            rintro e W4 ⟨i, r4, m4, rfl, hf1, hf2, h4, hg4⟩
            have hr4 := hr3.grown hg4 h4
            have hg := HG.out p hplt
            rw [Hn.out] at hf1 hf2
            obtain ⟨rfl, rfl⟩ := HL.out.reads hplt hg.1 hg.2 ht1 ht2 hf1 hf2
            have hse := HL.out.se p hplt
            have hes := HL.out.es p hplt
            have hle := HL.out.le p hplt
            rw [← Hn.out] at hle
            obtain ⟨i, hie⟩ : ∃ i, i = S p := ⟨_, rfl⟩
            obtain ⟨r5, hre⟩ : ∃ r5, r5 = E (p + 1) := ⟨_, rfl⟩
            obtain ⟨sk, hske⟩ : ∃ sk, sk = s p := ⟨_, rfl⟩
            have hg0 := hg.1
            rw [← hie, ← hre, ← hske] at hse
            rw [← hie] at hes hle
            rw [← hske] at hle hg0
            rw [← hie, ← hre]
            rw [← hre] at hr4
            have Hie := Lib.hid hie
            have Hre := Lib.hid hre
            have Hsk := Lib.hid hske
            clear hf1 hf2 h4 hg4 hx1 hr3 hg hie hre hske
            have hx0 : W4.cell? ⟨bx, 0, none⟩ = some (ptr bs) := hr4.x.cell 0
            have hcb := bytes_pos bs bb (65792 + (i : Int)) ((r5 : Int) - (i : Int)) m4 W4 hr4.st.s hr4.st.b (by omega) (by omega) (by omega)
            have Hcb := Lib.hid hcb
            clear hcb
            go_wp2_with fail
            (with_reducible refine Hcb.out.mono ?_)
            rintro e W5 ⟨g, c, rfl, hg1, hg2, hg3, hB5⟩
            have hr5 := hr4.later hB5
            have en : ((r5 : Int) - (i : Int)).toNat = sk.size := by omega
            rw [en] at hg3 ⊢
            have hcv : ∀ W, Below W5.heap.size W5 W → (convert 25 9 (.slice (some ⟨g, 0, none⟩) sk.size c)).run Try.prog W = .ok (.string sk) W := by
              intro W hW
              have h := run_convert_bytes_arg (P := Try.prog) W 25 5 Try.underlying25 Try.underlying5 g 0 sk.size c (byt sk) (byt_length sk) (fun j hj => by
                rw [Nat.zero_add, hW.cell (p := ⟨g, j, none⟩) hg2, hg3 j hj, show (65792 + (i : Int) - 65536).toNat + j = 256 + (i + j) from by omega, hr4.st.line _ (by omega)]
                have := HL.out.name p hplt j (by rw [← Hsk.out]; exact hj)
                rw [← Hie.out, ← Hsk.out] at this
                rw [this]) 9 Try.underlying9
              rw [str_byt] at h
              exact h
            obtain ⟨ad, hA, hab, hcd⟩ := hr (by omega)
            have hix : ∀ W, (Instr.indexAt 22 (.slice A k cap) (.int .i64 p)).run Try.prog W = .ok (.pointer (some (ad.add p))) W := by
              intro W; rw [hA]; exact ix22 ad k cap p hplt W
            have hck : W5.cell? (ad.add p) = some (.string sk) := by
              rw [Hsk.out]; exact (hr5.below.cell (p := ad.add p) (by rw [block_of_add]; exact hab)).trans (hcd p hplt)
            obtain ⟨ak, hak⟩ : ∃ ak, ak = ad.add p := ⟨_, rfl⟩
            rw [← hak] at hix hck
            have hcv5 := hcv W5.drew ((Below.refl _ W5).drew)
            have HCV := Lib.hid hcv
            clear hcv hA hab hcd hak hg3 en hx0 Hcb
            go_wp2_with fail
            go_region_held3 (fun W => W.cell? ak = some (.string sk) ∧ (convert 25 9 (.slice (some ⟨g, 0, none⟩) sk.size c)).run Try.prog W = .ok (.string sk) W) (first | exact ⟨hck, hcv5⟩ | go_keep) (fail)
            have hr6 := hr5.later ((Below.refl _ W5).drew)
            have ht3 : E (p + 1) ≤ nxt r5 n ∧ nxt r5 n ≤ E (p + 1) + 1 := by
              rw [← Hre.out]
              unfold nxt
              split <;> omega
            have HT3 := Lib.hid ht3
            clear ht3 hr5 hr4 hcv5 hck hix
            go_wp2
            go_roundw
            case rel => exact ⟨p + 1, by omega, by go_num, nxt r5 n, m4, HT3.out.1, HT3.out.2, hr6⟩
            case measure => simp [intOf]; omega
          · obtain rfl : p = k := by omega
            have htn : t = n := by
              have := hr3.st.ht
              omega
            go_wp2_with fail
            refine (name_any bs bb bc n t 0 (fun j => bl.getD j 0) m3 wr hr3.st).mono ?_
            rintro e W4 ⟨i, r4, m4, rfl, hf1, hf2, h4, hg4⟩
            have hr4 := hr3.grown hg4 h4
            have hi1 := hf1.lo
            have hi2 := hf2.lo
            have hi3 := hf2.hi
            have hz : (r4 : Int) - (i : Int) = 0 := by omega
            rw [hz]
            clear hf1 hf2 h4 hg4 hx1 hr3 hz
            go_wp2_with fail
            refine (awake_any W4).mono ?_
            rintro e W11 ⟨rfl, hB11⟩
            go_wp2
            go_ret
            exact ⟨rfl, hr4.below.trans (hB11.mono hr4.below.size)⟩
      · rw [← hn]
        have hL' : 1024 < n := by omega
        clear hn hrd HO
        go_wp2_with fail
        refine (awake_any wr).mono ?_
        rintro e W11 ⟨rfl, hB11⟩
        go_wp2
        go_ret
        exact ⟨rfl, hB.trans (hB11.mono hB.size)⟩
end Go.Proofs.Ytcjfeknkjjphfaa
