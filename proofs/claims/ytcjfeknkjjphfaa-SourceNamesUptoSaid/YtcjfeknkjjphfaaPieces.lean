/-
  The walk of SourcePieces: it returns true, and writes nothing that was there; at every slice of bytes and every slice of ints.
-/
import Derived.Test.YtcjfeknkjjphfaaBack
namespace Go.Proofs.Ytcjfeknkjjphfaa
open Go.RowKit

set_option maxRecDepth 100000 in
set_option maxHeartbeats 1000000 in
theorem pieces_out (A A1 : Option Addr) (len cap D cap1 : Nat) (w : World) (hlen : len ≤ 9223372036854775807) (hD : D ≤ 9223372036854775807) (h : 1024 < len ∨ 150 < D) :
    Calls Try.prog 5 #[.slice A len cap, .slice A1 D cap1] w fun e w' => e = .returned (.bool true) ∧ Below w.heap.size w w' := by
  have hA := awake_any w
  have HA := Lib.hid hA
  clear hA
  by_cases h1 : 1024 < len
  · go_enter Try.func5, Try.ntmps5
    go_wp2_with (go_at_call 7; refine HA.out.mono ?_; rintro e W ⟨rfl, hB⟩)
    go_ret
    exact ⟨rfl, hB⟩
  · have h2 : 150 < D := by omega
    go_enter Try.func5, Try.ntmps5
    go_wp2_with (go_at_call 7; refine HA.out.mono ?_; rintro e W ⟨rfl, hB⟩)
    go_ret
    exact ⟨rfl, hB⟩

theorem fld3 (a b c d e : Int) (W : World) : (Instr.field 45 (.agg #[.int .i64 a, .int .i64 b, .int .i64 c, .int .i64 d, .int .i64 e]) 3).run Try.prog W = .ok (.int .i64 d) W := by kernel_rfl
theorem ix23 (ad : Addr) (n c k : Nat) (h : k < n) (W : World) : (Instr.indexAt 23 (.slice (some ad) n c) (.int .i64 k)).run Try.prog W = .ok (.pointer (some (ad.add k))) W := by
  have h' : (k : Int) < (n : Int) := by omega
  simp [go_sem, h']
theorem ix25 (ad : Addr) (n c k : Nat) (h : k < n) (W : World) : (Instr.indexAt 25 (.slice (some ad) n c) (.int .i64 k)).run Try.prog W = .ok (.pointer (some (ad.add k))) W := by
  have h' : (k : Int) < (n : Int) := by omega
  simp [go_sem, h']
theorem slice_from (A : Option Addr) (n c k : Nat) (h : k ≤ n) (W : World) : (Instr.slice 25 (.slice A n c) (some (.int .i64 k)) none none).run Try.prog W = .ok (.slice (if c = k then A else A.map (·.add k)) (n - k) (c - k)) W := by
  rw [run_slice_l]
  · simp [go_sem, sliced]
  · simp [Program.elem, Try.underlying25]
  · omega
  · omega
theorem conv_zero (A : Option Addr) (c : Nat) (W : World) : (convert 25 9 (.slice A 0 c)).run Try.prog W = .ok (.string ByteArray.empty) W := by
  cases A with
  | none => exact run_convert_bytes_nil (P := Try.prog) W 25 5 Try.underlying25 Try.underlying5 0 c 9 Try.underlying9
  | some ad =>
    rw [run_convert_bytes_string W 25 9 5 _ 0 c Try.underlying25 Try.underlying5 Try.underlying9, run_bytesToString W ad 0 c [] (by simp [loadCells, loadCellsFrom])]
    rfl

/-- the bytes from k on -/
def tail (ln : Nat → Int) (k n : Nat) : List Int := (List.range (n - k)).map fun j => ln (k + j)
theorem tail_length (ln : Nat → Int) (k n : Nat) : (tail ln k n).length = n - k := by simp [tail]
theorem tail_get (ln : Nat → Int) (k n j : Nat) (h : j < n - k) : (tail ln k n).getD j 0 = ln (k + j) := by simp [tail, List.getD, h]

theorem plain_of_cell {w : World} {ad : Addr} {v : Value} (h : w.cell? (ad.add 0) = some v) : ∃ b o, ad = ⟨b, o, none⟩ := by
  obtain ⟨b, o, s⟩ := ad
  cases s with
  | none => exact ⟨b, o, rfl⟩
  | some x =>
    exfalso
    have hs : ((⟨b, o, some x⟩ : Addr).add 0).spot.isSome = true := rfl
    unfold World.cell? at h
    split at h
    · rw [if_pos hs] at h; cases h
    · cases h

theorem conv_from (A : Option Addr) (n c k : Nat) (ln : Nat → Int) (W : World) (hc : n ≤ c) (hr : Reads8 W A n ln) :
    (convert 25 9 (.slice (if c = k then A else A.map (·.add k)) (n - k) (c - k))).run Try.prog W = .ok (.string (strOfNums (tail ln k n))) W := by
  rcases Nat.eq_zero_or_pos (n - k) with h0 | h0
  · have e : tail ln k n = [] := List.eq_nil_of_length_eq_zero (by rw [tail_length]; exact h0)
    rw [h0, conv_zero, e]
    rfl
  · obtain ⟨ad, rfl, _, hcell⟩ := hr (by omega)
    obtain ⟨b, o, rfl⟩ := plain_of_cell (hcell 0 (by omega))
    rw [if_neg (by omega), Option.map_some, addr_add]
    exact run_convert_bytes_arg (P := Try.prog) W 25 5 Try.underlying25 Try.underlying5 b (o + k) (n - k) (c - k) (tail ln k n) (tail_length _ _ _) (fun i hi => by
      have := hcell (k + i) (by omega)
      rw [addr_add] at this
      rw [Nat.add_assoc, this, tail_get ln k n i hi]) 9 Try.underlying9

theorem conv_left (g c k n : Nat) (ln : Nat → Int) (W : World) (hcell : ∀ j, j < n - k → W.cell? ⟨g, j, none⟩ = some (.int .u8 (ln (k + j)))) :
    (convert 25 9 (.slice (some ⟨g, 0, none⟩) (n - k) c)).run Try.prog W = .ok (.string (strOfNums (tail ln k n))) W :=
  run_convert_bytes_arg (P := Try.prog) W 25 5 Try.underlying25 Try.underlying5 g 0 (n - k) c (tail ln k n) (tail_length _ _ _) (fun i hi => by
    rw [Nat.zero_add, hcell i hi, tail_get ln k n i hi]) 9 Try.underlying9

theorem drop_get {ops : Array Oper} {i : Nat} {oi : Oper} {rest : List Oper} (h : ops.toList.drop i = oi :: rest) : ops[i]? = some oi := by
  rw [← Array.getElem?_toList, ← List.head?_drop, h]
  rfl

/-- the ints of a slice -/
def ReadsI (w : World) (A : Option Addr) (n : Nat) (f : Nat → Int) : Prop := 0 < n → ∃ ad : Addr, A = some ad ∧ ad.block < w.heap.size ∧ ∀ j, j < n → w.cell? (ad.add j) = some (.int .i64 (f j))

set_option maxRecDepth 100000 in
set_option maxHeartbeats 4000000 in
theorem pieces_in (A A1 : Option Addr) (L cap D cap1 : Nat) (ln ds : Nat → Int) (w : World) (hL : L ≤ 1024) (hD : D ≤ 150) (hc : L ≤ cap) (hr : Reads8 w A L ln) (hi : ReadsI w A1 D ds) :
    Calls Try.prog 5 #[.slice A L cap, .slice A1 D cap1] w fun e w' => e = .returned (.bool true) ∧ Below w.heap.size w w' := by
  go_enter Try.func5, Try.ntmps5
  go_wp2_with fail
  refine (begun_any w).mono ?_
  rintro e W1 ⟨bx, bs, bb, bc, q, r, m1, rfl, hb, hB1⟩
  have hx0 : W1.cell? ⟨bx, 0, none⟩ = some (ptr bs) := hb.x.cell 0
  have hx1 : W1.cell? ⟨bx, 1, none⟩ = some (ptr bc) := hb.x.cell 1
  go_wp2_with fail
  refine (lay_any bs bb bc L cap A m1 ln W1 hb.s hL (hr.below hB1)).mono ?_
  rintro e W2 ⟨m2, rfl, h2, hO2⟩
  have hrun : Run w W2 bx bs bb bc q r L 0 0 ln m2 :=
    ⟨h2, hO2.blk hb.x (hb.x.ne_row hb.s.b (by decide)) (hb.x.ne_ hb.s.c (by decide)), hB1.trans (hO2.below hB1.size hb.lb hb.lc), hb.lb, hb.lc⟩
  clear hx0 hx1 hb hB1 h2 hO2
  go_wp2_with fail
  go_loopw [6, 7] (fun a i wr => ∃ k : Nat, k ≤ D ∧ i = .int .i64 k ∧ ∃ (t : Nat) (m' : Nat → Int), a = .int .i64 t ∧ Run w wr bx bs bb bc q r L 0 t ln m') (fun _ i _ => D - (intOf i).toNat)
  case atStart => exact ⟨0, Nat.zero_le _, rfl, 0, m2, rfl, hrun⟩
  case round =>
    obtain ⟨k, hk, rfl, t, m3, rfl, hr3⟩ := hrel
    have hx1 : wr.cell? ⟨bx, 1, none⟩ = some (ptr bc) := hr3.x.cell 1
    by_cases hlt : k < D
    · obtain ⟨ad1, hA1, hab, hcd⟩ := hi (by omega)
      have hix : ∀ W, (Instr.indexAt 23 (.slice A1 D cap1) (.int .i64 k)).run Try.prog W = .ok (.pointer (some (ad1.add k))) W := by
        intro W; rw [hA1]; exact ix23 ad1 D cap1 k hlt W
      have hck : wr.cell? (ad1.add k) = some (.int .i64 (ds k)) := (hr3.below.cell (p := ad1.add k) (by rw [block_of_add]; exact hab)).trans (hcd k hlt)
      obtain ⟨ak, hak⟩ : ∃ ak, ak = ad1.add k := ⟨_, rfl⟩
      obtain ⟨dk, hdk⟩ : ∃ dk, dk = ds k := ⟨_, rfl⟩
      rw [← hak] at hix hck
      rw [← hdk] at hck
      have hal : ak.block < w.heap.size := by rw [hak, block_of_add]; exact hab
      clear hA1 hab hcd hak hdk
      have hcall := parse_any bs bb bc L t 0 dk ln m3 wr.drew (hr3.st.below ((Below.refl _ wr).drew))
      have Hcall := Lib.hid hcall
      clear hcall
      have hlb := hr3.lb
      have n1 : bx ≠ bb := hr3.x.ne_row hr3.st.b (by decide)
      go_wp2_with fail
      go_region_held3 (fun W => W.cell? ⟨bx, 1, none⟩ = some (ptr bc) ∧ W.cell? ak = some (.int .i64 dk)) (first | go_keep | exact ⟨hx1, hck⟩)
        (first | (go_at_call 13; (with_reducible refine Hcall.out.mono ?_); rintro e W4 ⟨r4, m4, rfl, hf, h4, hg4⟩; have hx2 : W4.cell? ⟨bx, 1, none⟩ = some (ptr bc) := hg4.cell hx1 (by simpa using n1); have hck2 : W4.cell? ak = some (.int .i64 dk) := hg4.cell hck (by simp; omega)))
      have hg4' : wr.grownBy W4 (some bb) := ⟨hg4.os, hg4.tape, hg4.output, hg4.size, hg4.block⟩
      have hr4 := hr3.grown hg4' h4
      obtain ⟨d, hd⟩ : ∃ d, d = dk % 256 := ⟨_, rfl⟩
      rw [← hd] at hf ⊢
      have ht := hr3.st.ht
      have hlo := hf.lo
      have hhi := hf.hi
      clear hd Hcall hr3 hck hck2 hg4 hg4' h4 hx1 hal hix
      go_wp2_with fail
      go_loop [11] (fun i => ∃ j : Nat, t ≤ j ∧ j ≤ r4 ∧ i = .int .i64 j) (fun i => r4 - (intOf i).toNat)
      case atStart => exact ⟨t, Nat.le_refl _, hlo, rfl⟩
      case round =>
        obtain ⟨j, hj1, hj2, rfl⟩ := hrel
        by_cases hjr : j < r4
        · obtain ⟨ad, hA, hab, hcb⟩ := hr (by omega)
          have hiy : ∀ W, (Instr.indexAt 25 (.slice A L cap) (.int .i64 j)).run Try.prog W = .ok (.pointer (some (ad.add j))) W := by
            intro W; rw [hA]; exact ix25 ad L cap j (by omega) W
          have hcj : W4.cell? (ad.add j) = some (.int .u8 (ln j)) := (hr4.below.cell (p := ad.add j) (by rw [block_of_add]; exact hab)).trans (hcb j (by omega))
          have hno := hf.no j hj1 hjr
          obtain ⟨aj, haj⟩ : ∃ aj, aj = ad.add j := ⟨_, rfl⟩
          obtain ⟨x, hxe⟩ : ∃ x, x = ln j := ⟨_, rfl⟩
          rw [← haj] at hiy hcj
          rw [← hxe] at hcj hno
          clear hA hab hcb haj hxe
          have hne : (x == d) = false := by
            cases h : (x == d) with
            | false => rfl
            | true => simp [isD, h] at hno
          by_cases hd32 : d = 32
          · subst hd32
            have hge : ¬ x < 32 := by
              intro h; simp [isD, h] at hno
            clear hno
            go_wp2
            go_round
            case rel => exact ⟨j + 1, by omega, by omega, by go_num⟩
            case measure => simp [intOf]; omega
          · have hd33 : (d == 32) = false := by simpa using hd32
            clear hno hd32
            go_wp2
            go_round
            case rel => exact ⟨j + 1, by omega, by omega, by go_num⟩
            case measure => simp [intOf]; omega
        · obtain rfl : j = r4 := by omega
          have hsum : (t : Int) + ((j : Int) - t) = j := by omega
          rcases Nat.lt_or_ge j L with hjL | hjL
          · obtain ⟨ad, hA, hab, hcb⟩ := hr (by omega)
            have hiy : ∀ W, (Instr.indexAt 25 (.slice A L cap) (.int .i64 j)).run Try.prog W = .ok (.pointer (some (ad.add j))) W := by
              intro W; rw [hA]; exact ix25 ad L cap j hjL W
            have hcj : W4.cell? (ad.add j) = some (.int .u8 (ln j)) := (hr4.below.cell (p := ad.add j) (by rw [block_of_add]; exact hab)).trans (hcb j hjL)
            have hyes := hf.yes hjL
            obtain ⟨aj, haj⟩ : ∃ aj, aj = ad.add j := ⟨_, rfl⟩
            obtain ⟨x, hxe⟩ : ∃ x, x = ln j := ⟨_, rfl⟩
            rw [← haj] at hiy hcj
            rw [← hxe] at hcj hyes
            clear hA hab hcb haj hxe
            have hr5 : Run w W4 bx bs bb bc q r L 0 (j + 1) ln m4 := by rw [← nxt_lt hjL]; exact hr4
            clear hr4 hf
            by_cases hxd : x = d
            · have e1 : (x != d) = false := by simp [hxd]
              clear hyes hxd
              go_wp2_with fail
              obtain ⟨T, hT⟩ : ∃ T, T = j + 1 := ⟨_, rfl⟩
              have hTc : (j : Int) + 1 = (T : Int) := by omega
              rw [← hT] at hr5
              rw [hTc]
              have hTL : T ≤ L := by omega
              clear hT hTc hsum
              have hsl := slice_from A L cap T hTL
              obtain ⟨A', hA'⟩ : ∃ A', A' = (if cap = T then A else A.map (·.add T)) := ⟨_, rfl⟩
              obtain ⟨str, hstr⟩ : ∃ str, str = strOfNums (tail ln T L) := ⟨_, rfl⟩
              rw [← hA'] at hsl
              have hcvA : ∀ W, Below w.heap.size w W → (convert 25 9 (.slice A' (L - T) (cap - T))).run Try.prog W = .ok (.string str) W := by
                intro W hW
                rw [hA', hstr]
                exact conv_from A L cap T ln W hc (hr.below hW)
              have HcvA := Lib.hid hcvA
              have Hstr := Lib.hid hstr
              have hB4 := hr5.below
              have hcv4 := hcvA W4.drew hB4.drew
              have hfl := fun W => fld3 0 65792 (L : Int) (T : Int) 0 W
              have hcall := now_any bs bb bc L T 0 ln m4 W4.drew (hr5.st.below ((Below.refl _ W4).drew))
              have Hcall := Lib.hid hcall
              clear hcall hcvA hstr hA'
              unfold spec5 at Hcall
              refine wp_region_noPanic ?_
              refine wp_region_held_drew (S := fun W => W.cell? ⟨bx, 1, none⟩ = some (ptr bc) ∧ (convert 25 9 (.slice A' (L - T) (cap - T))).run Try.prog W = .ok (.string str) W) (by kernel_rfl) (by exact ⟨hx2, hcv4⟩) (fun hHeld => ?_)
              refine wpAnyH_take (i := 0) (oi := _) (v := ?_) (drop_get rfl) (by kernel_rfl) (by kernel_rfl) (by kernel_rfl) (fun _ _ _ h => h) (Or.inl ⟨by rfl, ?_⟩) (by assumption) ?_
              rotate_left
              · intro W hSw
                (try dsimp only at hSw)
                go_simp
                all_goals (with_reducible rfl)
              try simp only [Act.put, List.setIfInBounds_toArray, List.set_cons_zero, List.set_cons_succ]
              refine wpAnyH_take (i := 1) (oi := _) (v := ?_) (drop_get rfl) (by kernel_rfl) (by kernel_rfl) (by kernel_rfl) (fun _ _ _ h => h) (Or.inl ⟨by rfl, ?_⟩) (by assumption) ?_
              rotate_left
              · intro W hSw
                (try dsimp only at hSw)
                go_simp
                all_goals (with_reducible rfl)
              try simp only [Act.put, List.setIfInBounds_toArray, List.set_cons_zero, List.set_cons_succ]
              refine wpAnyH_take (i := 2) (oi := _) (v := ?_) (drop_get rfl) (by kernel_rfl) (by kernel_rfl) (by kernel_rfl) (fun _ _ _ h => h) (Or.inl ⟨by rfl, ?_⟩) (by assumption) ?_
              rotate_left
              · intro W hSw
                (try dsimp only at hSw)
                go_simp
                all_goals (with_reducible rfl)
              try simp only [Act.put, List.setIfInBounds_toArray, List.set_cons_zero, List.set_cons_succ]
              refine wpAnyH_take (i := 3) (oi := _) (v := ?_) (drop_get rfl) (by kernel_rfl) (by kernel_rfl) (by kernel_rfl) (fun _ _ _ h => h) (Or.inl ⟨by rfl, ?_⟩) (by assumption) ?_
              rotate_left
              · intro W hSw
                (try dsimp only at hSw)
                go_simp
                all_goals (with_reducible rfl)
              try simp only [Act.put, List.setIfInBounds_toArray, List.set_cons_zero, List.set_cons_succ]
              refine wpAnyH_take (i := 6) (oi := _) (v := ?_) (drop_get rfl) (by kernel_rfl) (by kernel_rfl) (by kernel_rfl) (fun _ _ _ h => h) (Or.inl ⟨by rfl, ?_⟩) (by assumption) ?_
              rotate_left
              · intro W hSw
                (try dsimp only at hSw)
                go_simp
                all_goals (with_reducible rfl)
              try simp only [Act.put, List.setIfInBounds_toArray, List.set_cons_zero, List.set_cons_succ]
              refine wpAnyH_ready (rs := [4]) (by kernel_rfl) (by simp) ?_
              refine AllReadyH.cons (o := _) (drop_get rfl) (fun K hK => ?_) AllReadyH.nil
              go_simp
              go_at_call 15
              (with_reducible refine Hcall.out.mono ?_)
              rintro e W5 ⟨rfl, hB5⟩
              have hB5' : Below W4.heap.size W4 W5 := (Below.refl _ W4).drew.trans hB5
              have hx5 : W5.cell? ⟨bx, 1, none⟩ = some (ptr bc) := cell_later hB5' hx2
              have hcv5 := HcvA.out W5 (hB4.trans (hB5'.mono hB4.size))
              have h5 := hr5.st.below hB5'
              go_wp2_with fail
              refine hK.out _ _ ⟨hx5, hcv5⟩ (fun hHeld => ?_)
              clear hK K
              try simp only [Act.put, List.setIfInBounds_toArray, List.set_cons_zero, List.set_cons_succ]
              refine wpAnyH_take (i := 5) (oi := _) (v := ?_) (drop_get rfl) (by kernel_rfl) (by kernel_rfl) (by kernel_rfl) (fun _ _ _ h => h) (Or.inl ⟨by rfl, ?_⟩) (by assumption) ?_
              rotate_left
              · intro W hSw
                (try dsimp only at hSw)
                go_simp
                all_goals (with_reducible rfl)
              try simp only [Act.put, List.setIfInBounds_toArray, List.set_cons_zero, List.set_cons_succ]
              refine wpAnyH_take (i := 7) (oi := _) (v := ?_) (drop_get rfl) (by kernel_rfl) (by kernel_rfl) (by kernel_rfl) (fun _ _ _ h => h) (Or.inl ⟨by rfl, ?_⟩) (by assumption) ?_
              rotate_left
              · intro W hSw
                (try dsimp only at hSw)
                go_simp
                all_goals (with_reducible rfl)
              try simp only [Act.put, List.setIfInBounds_toArray, List.set_cons_zero, List.set_cons_succ]
              refine wpAnyH_take (i := 8) (oi := _) (v := ?_) (drop_get rfl) (by kernel_rfl) (by kernel_rfl) (by kernel_rfl) (fun _ _ _ h => h) (Or.inl ⟨by rfl, ?_⟩) (by assumption) ?_
              rotate_left
              · intro W hSw
                (try dsimp only at hSw)
                go_simp
                all_goals (with_reducible rfl)
              try simp only [Act.put, List.setIfInBounds_toArray, List.set_cons_zero, List.set_cons_succ]
              refine wpAnyH_take (i := 9) (oi := _) (v := ?_) (drop_get rfl) (by kernel_rfl) (by kernel_rfl) (by kernel_rfl) (fun _ _ _ h => h) (Or.inl ⟨by rfl, ?_⟩) (by assumption) ?_
              rotate_left
              · intro W hSw
                (try dsimp only at hSw)
                go_simp
                all_goals (with_reducible rfl)
              try simp only [Act.put, List.setIfInBounds_toArray, List.set_cons_zero, List.set_cons_succ]
              refine wpAnyH_take (i := 10) (oi := _) (v := ?_) (drop_get rfl) (by kernel_rfl) (by kernel_rfl) (by kernel_rfl) (fun _ _ _ h => h) (Or.inl ⟨by rfl, ?_⟩) (by assumption) ?_
              rotate_left
              · intro W hSw
                (try dsimp only at hSw)
                go_simp
                all_goals (with_reducible rfl)
              try simp only [Act.put, List.setIfInBounds_toArray, List.set_cons_zero, List.set_cons_succ]
              refine wpAnyH_take (i := 11) (oi := _) (v := ?_) (drop_get rfl) (by kernel_rfl) (by kernel_rfl) (by kernel_rfl) (fun _ _ _ h => h) (Or.inl ⟨by rfl, ?_⟩) (by assumption) ?_
              rotate_left
              · intro W hSw
                (try dsimp only at hSw)
                go_simp
                all_goals (with_reducible rfl)
              try simp only [Act.put, List.setIfInBounds_toArray, List.set_cons_zero, List.set_cons_succ]
              refine wpAnyH_take (i := 12) (oi := _) (v := ?_) (drop_get rfl) (by kernel_rfl) (by kernel_rfl) (by kernel_rfl) (fun _ _ _ h => h) (Or.inl ⟨by rfl, ?_⟩) (by assumption) ?_
              rotate_left
              · intro W hSw
                (try dsimp only at hSw)
                go_simp
                all_goals (with_reducible rfl)
              try simp only [Act.put, List.setIfInBounds_toArray, List.set_cons_zero, List.set_cons_succ]
              refine wpAnyH_take (i := 15) (oi := _) (v := ?_) (drop_get rfl) (by kernel_rfl) (by kernel_rfl) (by kernel_rfl) (fun _ _ _ h => h) (Or.inl ⟨by rfl, ?_⟩) (by assumption) ?_
              rotate_left
              · intro W hSw
                (try dsimp only at hSw)
                go_simp
                all_goals (with_reducible rfl)
              try simp only [Act.put, List.setIfInBounds_toArray, List.set_cons_zero, List.set_cons_succ]
              refine wpAnyH_take (i := 16) (oi := _) (v := ?_) (drop_get rfl) (by kernel_rfl) (by kernel_rfl) (by kernel_rfl) (fun _ _ _ h => h) (Or.inl ⟨by rfl, ?_⟩) (by assumption) ?_
              rotate_left
              · intro W hSw
                (try dsimp only at hSw)
                go_simp
                all_goals (with_reducible rfl)
              try simp only [Act.put, List.setIfInBounds_toArray, List.set_cons_zero, List.set_cons_succ]
              refine wpAnyH_take (i := 17) (oi := _) (v := ?_) (drop_get rfl) (by kernel_rfl) (by kernel_rfl) (by kernel_rfl) (fun _ _ _ h => h) (Or.inl ⟨by rfl, ?_⟩) (by assumption) ?_
              rotate_left
              · intro W hSw
                (try dsimp only at hSw)
                go_simp
                all_goals (with_reducible rfl)
              try simp only [Act.put, List.setIfInBounds_toArray, List.set_cons_zero, List.set_cons_succ]
              refine wpAnyH_take (i := 18) (oi := _) (v := ?_) (drop_get rfl) (by kernel_rfl) (by kernel_rfl) (by kernel_rfl) (fun _ _ _ h => h) (Or.inl ⟨by rfl, ?_⟩) (by assumption) ?_
              rotate_left
              · intro W hSw
                (try dsimp only at hSw)
                go_simp
                all_goals (with_reducible rfl)
              try simp only [Act.put, List.setIfInBounds_toArray, List.set_cons_zero, List.set_cons_succ]
              refine wpAnyH_ready (rs := [13]) (by kernel_rfl) (by simp) ?_
              refine AllReadyH.cons (o := _) (drop_get rfl) (fun K hK => ?_) AllReadyH.nil
              go_simp
              go_at_call 14
              (with_reducible refine (left_any bs bb bc L T 0 ln m4 _ h5).mono ?_)
              rintro e W6 ⟨g, c, rfl, hg, hcell, hB6⟩
              have hx6 : W6.cell? ⟨bx, 1, none⟩ = some (ptr bc) := cell_later hB6 hx5
              have hcv6 := HcvA.out W6 (hB4.trans ((hB5'.trans (hB6.mono hB5'.size)).mono hB4.size))
              have hcvL := conv_left g c T L ln W6 hcell
              rw [← Hstr.out] at hcvL
              go_wp2_with fail
              refine hK.out _ _ ⟨hx6, hcv6⟩ (fun hHeld => ?_)
              clear hK K
              try simp only [Act.put, List.setIfInBounds_toArray, List.set_cons_zero, List.set_cons_succ]
              refine wpAnyH_ready (rs := [14]) (by kernel_rfl) (by simp) ?_
              refine AllReadyH.cons (o := _) (drop_get rfl) (fun K hK => ?_) AllReadyH.nil
              go_simp
              refine hK.out _ _ ⟨hx6, hcv6⟩ (fun hHeld => ?_)
              clear hK K
              try simp only [Act.put, List.setIfInBounds_toArray, List.set_cons_zero, List.set_cons_succ]
              refine wpAnyH_take (i := 19) (oi := _) (v := ?_) (drop_get rfl) (by kernel_rfl) (by kernel_rfl) (by kernel_rfl) (fun _ _ _ h => h) (Or.inl ⟨by rfl, ?_⟩) (by assumption) ?_
              rotate_left
              · intro W hSw
                (try dsimp only at hSw)
                go_simp
                all_goals (with_reducible rfl)
              try simp only [Act.put, List.setIfInBounds_toArray, List.set_cons_zero, List.set_cons_succ]
              refine wpAnyH_take (i := 20) (oi := _) (v := ?_) (drop_get rfl) (by kernel_rfl) (by kernel_rfl) (by kernel_rfl) (fun _ _ _ h => h) (Or.inl ⟨by rfl, ?_⟩) (by assumption) ?_
              rotate_left
              · intro W hSw
                (try dsimp only at hSw)
                go_simp
                all_goals (with_reducible rfl)
              try simp only [Act.put, List.setIfInBounds_toArray, List.set_cons_zero, List.set_cons_succ]
              refine wpAnyH_done (by kernel_rfl) ?_ _
              refine NoPanic.normal ?_
              have hB6' : Below W4.heap.size W4 W6 := hB5'.trans (hB6.mono hB5'.size)
              have hr6 : Run w W6 bx bs bb bc q r L 0 T ln m4 := hr5.later hB6'
              clear hcvL hcv4 hcv5 hcv6 HcvA Hstr Hcall hsl hfl hHeld hB5 hB6 hB5' hB6' hcell h5 hg
              go_wp2
              go_roundw
              case rel => exact ⟨k + 1, by omega, by go_num, T, m4, rfl, hr6⟩
              case measure => simp [intOf]; omega
            · have hd32 : d = 32 := by
                simp [isD, hxd] at hyes
                exact hyes.1
              have hx32 : x < 32 := by
                simp [isD, hxd] at hyes
                exact hyes.2
              subst hd32
              have e1 : (x != 32) = true := by simp [hxd]
              clear hyes hxd
              go_wp2_with fail
              obtain ⟨T, hT⟩ : ∃ T, T = j + 1 := ⟨_, rfl⟩
              have hTc : (j : Int) + 1 = (T : Int) := by omega
              rw [← hT] at hr5
              rw [hTc]
              have hTL : T ≤ L := by omega
              clear hT hTc hsum
              have hsl := slice_from A L cap T hTL
              obtain ⟨A', hA'⟩ : ∃ A', A' = (if cap = T then A else A.map (·.add T)) := ⟨_, rfl⟩
              obtain ⟨str, hstr⟩ : ∃ str, str = strOfNums (tail ln T L) := ⟨_, rfl⟩
              rw [← hA'] at hsl
              have hcvA : ∀ W, Below w.heap.size w W → (convert 25 9 (.slice A' (L - T) (cap - T))).run Try.prog W = .ok (.string str) W := by
                intro W hW
                rw [hA', hstr]
                exact conv_from A L cap T ln W hc (hr.below hW)
              have HcvA := Lib.hid hcvA
              have Hstr := Lib.hid hstr
              have hB4 := hr5.below
              have hcv4 := hcvA W4.drew hB4.drew
              have hfl := fun W => fld3 0 65792 (L : Int) (T : Int) 0 W
              have hcall := now_any bs bb bc L T 0 ln m4 W4.drew (hr5.st.below ((Below.refl _ W4).drew))
              have Hcall := Lib.hid hcall
              clear hcall hcvA hstr hA'
              unfold spec5 at Hcall
              refine wp_region_noPanic ?_
              refine wp_region_held_drew (S := fun W => W.cell? ⟨bx, 1, none⟩ = some (ptr bc) ∧ (convert 25 9 (.slice A' (L - T) (cap - T))).run Try.prog W = .ok (.string str) W) (by kernel_rfl) (by exact ⟨hx2, hcv4⟩) (fun hHeld => ?_)
              refine wpAnyH_take (i := 0) (oi := _) (v := ?_) (drop_get rfl) (by kernel_rfl) (by kernel_rfl) (by kernel_rfl) (fun _ _ _ h => h) (Or.inl ⟨by rfl, ?_⟩) (by assumption) ?_
              rotate_left
              · intro W hSw
                (try dsimp only at hSw)
                go_simp
                all_goals (with_reducible rfl)
              try simp only [Act.put, List.setIfInBounds_toArray, List.set_cons_zero, List.set_cons_succ]
              refine wpAnyH_take (i := 1) (oi := _) (v := ?_) (drop_get rfl) (by kernel_rfl) (by kernel_rfl) (by kernel_rfl) (fun _ _ _ h => h) (Or.inl ⟨by rfl, ?_⟩) (by assumption) ?_
              rotate_left
              · intro W hSw
                (try dsimp only at hSw)
                go_simp
                all_goals (with_reducible rfl)
              try simp only [Act.put, List.setIfInBounds_toArray, List.set_cons_zero, List.set_cons_succ]
              refine wpAnyH_take (i := 2) (oi := _) (v := ?_) (drop_get rfl) (by kernel_rfl) (by kernel_rfl) (by kernel_rfl) (fun _ _ _ h => h) (Or.inl ⟨by rfl, ?_⟩) (by assumption) ?_
              rotate_left
              · intro W hSw
                (try dsimp only at hSw)
                go_simp
                all_goals (with_reducible rfl)
              try simp only [Act.put, List.setIfInBounds_toArray, List.set_cons_zero, List.set_cons_succ]
              refine wpAnyH_take (i := 3) (oi := _) (v := ?_) (drop_get rfl) (by kernel_rfl) (by kernel_rfl) (by kernel_rfl) (fun _ _ _ h => h) (Or.inl ⟨by rfl, ?_⟩) (by assumption) ?_
              rotate_left
              · intro W hSw
                (try dsimp only at hSw)
                go_simp
                all_goals (with_reducible rfl)
              try simp only [Act.put, List.setIfInBounds_toArray, List.set_cons_zero, List.set_cons_succ]
              refine wpAnyH_take (i := 6) (oi := _) (v := ?_) (drop_get rfl) (by kernel_rfl) (by kernel_rfl) (by kernel_rfl) (fun _ _ _ h => h) (Or.inl ⟨by rfl, ?_⟩) (by assumption) ?_
              rotate_left
              · intro W hSw
                (try dsimp only at hSw)
                go_simp
                all_goals (with_reducible rfl)
              try simp only [Act.put, List.setIfInBounds_toArray, List.set_cons_zero, List.set_cons_succ]
              refine wpAnyH_ready (rs := [4]) (by kernel_rfl) (by simp) ?_
              refine AllReadyH.cons (o := _) (drop_get rfl) (fun K hK => ?_) AllReadyH.nil
              go_simp
              go_at_call 15
              (with_reducible refine Hcall.out.mono ?_)
              rintro e W5 ⟨rfl, hB5⟩
              have hB5' : Below W4.heap.size W4 W5 := (Below.refl _ W4).drew.trans hB5
              have hx5 : W5.cell? ⟨bx, 1, none⟩ = some (ptr bc) := cell_later hB5' hx2
              have hcv5 := HcvA.out W5 (hB4.trans (hB5'.mono hB4.size))
              have h5 := hr5.st.below hB5'
              go_wp2_with fail
              refine hK.out _ _ ⟨hx5, hcv5⟩ (fun hHeld => ?_)
              clear hK K
              try simp only [Act.put, List.setIfInBounds_toArray, List.set_cons_zero, List.set_cons_succ]
              refine wpAnyH_take (i := 5) (oi := _) (v := ?_) (drop_get rfl) (by kernel_rfl) (by kernel_rfl) (by kernel_rfl) (fun _ _ _ h => h) (Or.inl ⟨by rfl, ?_⟩) (by assumption) ?_
              rotate_left
              · intro W hSw
                (try dsimp only at hSw)
                go_simp
                all_goals (with_reducible rfl)
              try simp only [Act.put, List.setIfInBounds_toArray, List.set_cons_zero, List.set_cons_succ]
              refine wpAnyH_take (i := 7) (oi := _) (v := ?_) (drop_get rfl) (by kernel_rfl) (by kernel_rfl) (by kernel_rfl) (fun _ _ _ h => h) (Or.inl ⟨by rfl, ?_⟩) (by assumption) ?_
              rotate_left
              · intro W hSw
                (try dsimp only at hSw)
                go_simp
                all_goals (with_reducible rfl)
              try simp only [Act.put, List.setIfInBounds_toArray, List.set_cons_zero, List.set_cons_succ]
              refine wpAnyH_take (i := 8) (oi := _) (v := ?_) (drop_get rfl) (by kernel_rfl) (by kernel_rfl) (by kernel_rfl) (fun _ _ _ h => h) (Or.inl ⟨by rfl, ?_⟩) (by assumption) ?_
              rotate_left
              · intro W hSw
                (try dsimp only at hSw)
                go_simp
                all_goals (with_reducible rfl)
              try simp only [Act.put, List.setIfInBounds_toArray, List.set_cons_zero, List.set_cons_succ]
              refine wpAnyH_take (i := 9) (oi := _) (v := ?_) (drop_get rfl) (by kernel_rfl) (by kernel_rfl) (by kernel_rfl) (fun _ _ _ h => h) (Or.inl ⟨by rfl, ?_⟩) (by assumption) ?_
              rotate_left
              · intro W hSw
                (try dsimp only at hSw)
                go_simp
                all_goals (with_reducible rfl)
              try simp only [Act.put, List.setIfInBounds_toArray, List.set_cons_zero, List.set_cons_succ]
              refine wpAnyH_take (i := 10) (oi := _) (v := ?_) (drop_get rfl) (by kernel_rfl) (by kernel_rfl) (by kernel_rfl) (fun _ _ _ h => h) (Or.inl ⟨by rfl, ?_⟩) (by assumption) ?_
              rotate_left
              · intro W hSw
                (try dsimp only at hSw)
                go_simp
                all_goals (with_reducible rfl)
              try simp only [Act.put, List.setIfInBounds_toArray, List.set_cons_zero, List.set_cons_succ]
              refine wpAnyH_take (i := 11) (oi := _) (v := ?_) (drop_get rfl) (by kernel_rfl) (by kernel_rfl) (by kernel_rfl) (fun _ _ _ h => h) (Or.inl ⟨by rfl, ?_⟩) (by assumption) ?_
              rotate_left
              · intro W hSw
                (try dsimp only at hSw)
                go_simp
                all_goals (with_reducible rfl)
              try simp only [Act.put, List.setIfInBounds_toArray, List.set_cons_zero, List.set_cons_succ]
              refine wpAnyH_take (i := 12) (oi := _) (v := ?_) (drop_get rfl) (by kernel_rfl) (by kernel_rfl) (by kernel_rfl) (fun _ _ _ h => h) (Or.inl ⟨by rfl, ?_⟩) (by assumption) ?_
              rotate_left
              · intro W hSw
                (try dsimp only at hSw)
                go_simp
                all_goals (with_reducible rfl)
              try simp only [Act.put, List.setIfInBounds_toArray, List.set_cons_zero, List.set_cons_succ]
              refine wpAnyH_take (i := 15) (oi := _) (v := ?_) (drop_get rfl) (by kernel_rfl) (by kernel_rfl) (by kernel_rfl) (fun _ _ _ h => h) (Or.inl ⟨by rfl, ?_⟩) (by assumption) ?_
              rotate_left
              · intro W hSw
                (try dsimp only at hSw)
                go_simp
                all_goals (with_reducible rfl)
              try simp only [Act.put, List.setIfInBounds_toArray, List.set_cons_zero, List.set_cons_succ]
              refine wpAnyH_take (i := 16) (oi := _) (v := ?_) (drop_get rfl) (by kernel_rfl) (by kernel_rfl) (by kernel_rfl) (fun _ _ _ h => h) (Or.inl ⟨by rfl, ?_⟩) (by assumption) ?_
              rotate_left
              · intro W hSw
                (try dsimp only at hSw)
                go_simp
                all_goals (with_reducible rfl)
              try simp only [Act.put, List.setIfInBounds_toArray, List.set_cons_zero, List.set_cons_succ]
              refine wpAnyH_take (i := 17) (oi := _) (v := ?_) (drop_get rfl) (by kernel_rfl) (by kernel_rfl) (by kernel_rfl) (fun _ _ _ h => h) (Or.inl ⟨by rfl, ?_⟩) (by assumption) ?_
              rotate_left
              · intro W hSw
                (try dsimp only at hSw)
                go_simp
                all_goals (with_reducible rfl)
              try simp only [Act.put, List.setIfInBounds_toArray, List.set_cons_zero, List.set_cons_succ]
              refine wpAnyH_take (i := 18) (oi := _) (v := ?_) (drop_get rfl) (by kernel_rfl) (by kernel_rfl) (by kernel_rfl) (fun _ _ _ h => h) (Or.inl ⟨by rfl, ?_⟩) (by assumption) ?_
              rotate_left
              · intro W hSw
                (try dsimp only at hSw)
                go_simp
                all_goals (with_reducible rfl)
              try simp only [Act.put, List.setIfInBounds_toArray, List.set_cons_zero, List.set_cons_succ]
              refine wpAnyH_ready (rs := [13]) (by kernel_rfl) (by simp) ?_
              refine AllReadyH.cons (o := _) (drop_get rfl) (fun K hK => ?_) AllReadyH.nil
              go_simp
              go_at_call 14
              (with_reducible refine (left_any bs bb bc L T 0 ln m4 _ h5).mono ?_)
              rintro e W6 ⟨g, c, rfl, hg, hcell, hB6⟩
              have hx6 : W6.cell? ⟨bx, 1, none⟩ = some (ptr bc) := cell_later hB6 hx5
              have hcv6 := HcvA.out W6 (hB4.trans ((hB5'.trans (hB6.mono hB5'.size)).mono hB4.size))
              have hcvL := conv_left g c T L ln W6 hcell
              rw [← Hstr.out] at hcvL
              go_wp2_with fail
              refine hK.out _ _ ⟨hx6, hcv6⟩ (fun hHeld => ?_)
              clear hK K
              try simp only [Act.put, List.setIfInBounds_toArray, List.set_cons_zero, List.set_cons_succ]
              refine wpAnyH_ready (rs := [14]) (by kernel_rfl) (by simp) ?_
              refine AllReadyH.cons (o := _) (drop_get rfl) (fun K hK => ?_) AllReadyH.nil
              go_simp
              refine hK.out _ _ ⟨hx6, hcv6⟩ (fun hHeld => ?_)
              clear hK K
              try simp only [Act.put, List.setIfInBounds_toArray, List.set_cons_zero, List.set_cons_succ]
              refine wpAnyH_take (i := 19) (oi := _) (v := ?_) (drop_get rfl) (by kernel_rfl) (by kernel_rfl) (by kernel_rfl) (fun _ _ _ h => h) (Or.inl ⟨by rfl, ?_⟩) (by assumption) ?_
              rotate_left
              · intro W hSw
                (try dsimp only at hSw)
                go_simp
                all_goals (with_reducible rfl)
              try simp only [Act.put, List.setIfInBounds_toArray, List.set_cons_zero, List.set_cons_succ]
              refine wpAnyH_take (i := 20) (oi := _) (v := ?_) (drop_get rfl) (by kernel_rfl) (by kernel_rfl) (by kernel_rfl) (fun _ _ _ h => h) (Or.inl ⟨by rfl, ?_⟩) (by assumption) ?_
              rotate_left
              · intro W hSw
                (try dsimp only at hSw)
                go_simp
                all_goals (with_reducible rfl)
              try simp only [Act.put, List.setIfInBounds_toArray, List.set_cons_zero, List.set_cons_succ]
              refine wpAnyH_done (by kernel_rfl) ?_ _
              refine NoPanic.normal ?_
              have hB6' : Below W4.heap.size W4 W6 := hB5'.trans (hB6.mono hB5'.size)
              have hr6 : Run w W6 bx bs bb bc q r L 0 T ln m4 := hr5.later hB6'
              clear hcvL hcv4 hcv5 hcv6 HcvA Hstr Hcall hsl hfl hHeld hB5 hB6 hB5' hB6' hcell h5 hg
              go_wp2
              go_roundw
              case rel => exact ⟨k + 1, by omega, by go_num, T, m4, rfl, hr6⟩
              case measure => simp [intOf]; omega
          · have hr5 : Run w W4 bx bs bb bc q r L 0 j ln m4 := by rw [← nxt_ge (show ¬ j < L from by omega)]; exact hr4
            clear hr4 hf
            go_wp2_with fail
            obtain ⟨T, hT⟩ : ∃ T, T = j := ⟨_, rfl⟩
            rw [← hT] at hr5 ⊢
            have hTL : T ≤ L := by omega
            clear hT hsum
            have hsl := slice_from A L cap T hTL
            obtain ⟨A', hA'⟩ : ∃ A', A' = (if cap = T then A else A.map (·.add T)) := ⟨_, rfl⟩
            obtain ⟨str, hstr⟩ : ∃ str, str = strOfNums (tail ln T L) := ⟨_, rfl⟩
            rw [← hA'] at hsl
            have hcvA : ∀ W, Below w.heap.size w W → (convert 25 9 (.slice A' (L - T) (cap - T))).run Try.prog W = .ok (.string str) W := by
              intro W hW
              rw [hA', hstr]
              exact conv_from A L cap T ln W hc (hr.below hW)
            have HcvA := Lib.hid hcvA
            have Hstr := Lib.hid hstr
            have hB4 := hr5.below
            have hcv4 := hcvA W4.drew hB4.drew
            have hfl := fun W => fld3 0 65792 (L : Int) (T : Int) 0 W
            have hcall := now_any bs bb bc L T 0 ln m4 W4.drew (hr5.st.below ((Below.refl _ W4).drew))
            have Hcall := Lib.hid hcall
            clear hcall hcvA hstr hA'
            unfold spec5 at Hcall
            refine wp_region_noPanic ?_
            refine wp_region_held_drew (S := fun W => W.cell? ⟨bx, 1, none⟩ = some (ptr bc) ∧ (convert 25 9 (.slice A' (L - T) (cap - T))).run Try.prog W = .ok (.string str) W) (by kernel_rfl) (by exact ⟨hx2, hcv4⟩) (fun hHeld => ?_)
            refine wpAnyH_take (i := 0) (oi := _) (v := ?_) (drop_get rfl) (by kernel_rfl) (by kernel_rfl) (by kernel_rfl) (fun _ _ _ h => h) (Or.inl ⟨by rfl, ?_⟩) (by assumption) ?_
            rotate_left
            · intro W hSw
              (try dsimp only at hSw)
              go_simp
              all_goals (with_reducible rfl)
            try simp only [Act.put, List.setIfInBounds_toArray, List.set_cons_zero, List.set_cons_succ]
            refine wpAnyH_take (i := 1) (oi := _) (v := ?_) (drop_get rfl) (by kernel_rfl) (by kernel_rfl) (by kernel_rfl) (fun _ _ _ h => h) (Or.inl ⟨by rfl, ?_⟩) (by assumption) ?_
            rotate_left
            · intro W hSw
              (try dsimp only at hSw)
              go_simp
              all_goals (with_reducible rfl)
            try simp only [Act.put, List.setIfInBounds_toArray, List.set_cons_zero, List.set_cons_succ]
            refine wpAnyH_take (i := 2) (oi := _) (v := ?_) (drop_get rfl) (by kernel_rfl) (by kernel_rfl) (by kernel_rfl) (fun _ _ _ h => h) (Or.inl ⟨by rfl, ?_⟩) (by assumption) ?_
            rotate_left
            · intro W hSw
              (try dsimp only at hSw)
              go_simp
              all_goals (with_reducible rfl)
            try simp only [Act.put, List.setIfInBounds_toArray, List.set_cons_zero, List.set_cons_succ]
            refine wpAnyH_take (i := 3) (oi := _) (v := ?_) (drop_get rfl) (by kernel_rfl) (by kernel_rfl) (by kernel_rfl) (fun _ _ _ h => h) (Or.inl ⟨by rfl, ?_⟩) (by assumption) ?_
            rotate_left
            · intro W hSw
              (try dsimp only at hSw)
              go_simp
              all_goals (with_reducible rfl)
            try simp only [Act.put, List.setIfInBounds_toArray, List.set_cons_zero, List.set_cons_succ]
            refine wpAnyH_take (i := 6) (oi := _) (v := ?_) (drop_get rfl) (by kernel_rfl) (by kernel_rfl) (by kernel_rfl) (fun _ _ _ h => h) (Or.inl ⟨by rfl, ?_⟩) (by assumption) ?_
            rotate_left
            · intro W hSw
              (try dsimp only at hSw)
              go_simp
              all_goals (with_reducible rfl)
            try simp only [Act.put, List.setIfInBounds_toArray, List.set_cons_zero, List.set_cons_succ]
            refine wpAnyH_ready (rs := [4]) (by kernel_rfl) (by simp) ?_
            refine AllReadyH.cons (o := _) (drop_get rfl) (fun K hK => ?_) AllReadyH.nil
            go_simp
            go_at_call 15
            (with_reducible refine Hcall.out.mono ?_)
            rintro e W5 ⟨rfl, hB5⟩
            have hB5' : Below W4.heap.size W4 W5 := (Below.refl _ W4).drew.trans hB5
            have hx5 : W5.cell? ⟨bx, 1, none⟩ = some (ptr bc) := cell_later hB5' hx2
            have hcv5 := HcvA.out W5 (hB4.trans (hB5'.mono hB4.size))
            have h5 := hr5.st.below hB5'
            go_wp2_with fail
            refine hK.out _ _ ⟨hx5, hcv5⟩ (fun hHeld => ?_)
            clear hK K
            try simp only [Act.put, List.setIfInBounds_toArray, List.set_cons_zero, List.set_cons_succ]
            refine wpAnyH_take (i := 5) (oi := _) (v := ?_) (drop_get rfl) (by kernel_rfl) (by kernel_rfl) (by kernel_rfl) (fun _ _ _ h => h) (Or.inl ⟨by rfl, ?_⟩) (by assumption) ?_
            rotate_left
            · intro W hSw
              (try dsimp only at hSw)
              go_simp
              all_goals (with_reducible rfl)
            try simp only [Act.put, List.setIfInBounds_toArray, List.set_cons_zero, List.set_cons_succ]
            refine wpAnyH_take (i := 7) (oi := _) (v := ?_) (drop_get rfl) (by kernel_rfl) (by kernel_rfl) (by kernel_rfl) (fun _ _ _ h => h) (Or.inl ⟨by rfl, ?_⟩) (by assumption) ?_
            rotate_left
            · intro W hSw
              (try dsimp only at hSw)
              go_simp
              all_goals (with_reducible rfl)
            try simp only [Act.put, List.setIfInBounds_toArray, List.set_cons_zero, List.set_cons_succ]
            refine wpAnyH_take (i := 8) (oi := _) (v := ?_) (drop_get rfl) (by kernel_rfl) (by kernel_rfl) (by kernel_rfl) (fun _ _ _ h => h) (Or.inl ⟨by rfl, ?_⟩) (by assumption) ?_
            rotate_left
            · intro W hSw
              (try dsimp only at hSw)
              go_simp
              all_goals (with_reducible rfl)
            try simp only [Act.put, List.setIfInBounds_toArray, List.set_cons_zero, List.set_cons_succ]
            refine wpAnyH_take (i := 9) (oi := _) (v := ?_) (drop_get rfl) (by kernel_rfl) (by kernel_rfl) (by kernel_rfl) (fun _ _ _ h => h) (Or.inl ⟨by rfl, ?_⟩) (by assumption) ?_
            rotate_left
            · intro W hSw
              (try dsimp only at hSw)
              go_simp
              all_goals (with_reducible rfl)
            try simp only [Act.put, List.setIfInBounds_toArray, List.set_cons_zero, List.set_cons_succ]
            refine wpAnyH_take (i := 10) (oi := _) (v := ?_) (drop_get rfl) (by kernel_rfl) (by kernel_rfl) (by kernel_rfl) (fun _ _ _ h => h) (Or.inl ⟨by rfl, ?_⟩) (by assumption) ?_
            rotate_left
            · intro W hSw
              (try dsimp only at hSw)
              go_simp
              all_goals (with_reducible rfl)
            try simp only [Act.put, List.setIfInBounds_toArray, List.set_cons_zero, List.set_cons_succ]
            refine wpAnyH_take (i := 11) (oi := _) (v := ?_) (drop_get rfl) (by kernel_rfl) (by kernel_rfl) (by kernel_rfl) (fun _ _ _ h => h) (Or.inl ⟨by rfl, ?_⟩) (by assumption) ?_
            rotate_left
            · intro W hSw
              (try dsimp only at hSw)
              go_simp
              all_goals (with_reducible rfl)
            try simp only [Act.put, List.setIfInBounds_toArray, List.set_cons_zero, List.set_cons_succ]
            refine wpAnyH_take (i := 12) (oi := _) (v := ?_) (drop_get rfl) (by kernel_rfl) (by kernel_rfl) (by kernel_rfl) (fun _ _ _ h => h) (Or.inl ⟨by rfl, ?_⟩) (by assumption) ?_
            rotate_left
            · intro W hSw
              (try dsimp only at hSw)
              go_simp
              all_goals (with_reducible rfl)
            try simp only [Act.put, List.setIfInBounds_toArray, List.set_cons_zero, List.set_cons_succ]
            refine wpAnyH_take (i := 15) (oi := _) (v := ?_) (drop_get rfl) (by kernel_rfl) (by kernel_rfl) (by kernel_rfl) (fun _ _ _ h => h) (Or.inl ⟨by rfl, ?_⟩) (by assumption) ?_
            rotate_left
            · intro W hSw
              (try dsimp only at hSw)
              go_simp
              all_goals (with_reducible rfl)
            try simp only [Act.put, List.setIfInBounds_toArray, List.set_cons_zero, List.set_cons_succ]
            refine wpAnyH_take (i := 16) (oi := _) (v := ?_) (drop_get rfl) (by kernel_rfl) (by kernel_rfl) (by kernel_rfl) (fun _ _ _ h => h) (Or.inl ⟨by rfl, ?_⟩) (by assumption) ?_
            rotate_left
            · intro W hSw
              (try dsimp only at hSw)
              go_simp
              all_goals (with_reducible rfl)
            try simp only [Act.put, List.setIfInBounds_toArray, List.set_cons_zero, List.set_cons_succ]
            refine wpAnyH_take (i := 17) (oi := _) (v := ?_) (drop_get rfl) (by kernel_rfl) (by kernel_rfl) (by kernel_rfl) (fun _ _ _ h => h) (Or.inl ⟨by rfl, ?_⟩) (by assumption) ?_
            rotate_left
            · intro W hSw
              (try dsimp only at hSw)
              go_simp
              all_goals (with_reducible rfl)
            try simp only [Act.put, List.setIfInBounds_toArray, List.set_cons_zero, List.set_cons_succ]
            refine wpAnyH_take (i := 18) (oi := _) (v := ?_) (drop_get rfl) (by kernel_rfl) (by kernel_rfl) (by kernel_rfl) (fun _ _ _ h => h) (Or.inl ⟨by rfl, ?_⟩) (by assumption) ?_
            rotate_left
            · intro W hSw
              (try dsimp only at hSw)
              go_simp
              all_goals (with_reducible rfl)
            try simp only [Act.put, List.setIfInBounds_toArray, List.set_cons_zero, List.set_cons_succ]
            refine wpAnyH_ready (rs := [13]) (by kernel_rfl) (by simp) ?_
            refine AllReadyH.cons (o := _) (drop_get rfl) (fun K hK => ?_) AllReadyH.nil
            go_simp
            go_at_call 14
            (with_reducible refine (left_any bs bb bc L T 0 ln m4 _ h5).mono ?_)
            rintro e W6 ⟨g, c, rfl, hg, hcell, hB6⟩
            have hx6 : W6.cell? ⟨bx, 1, none⟩ = some (ptr bc) := cell_later hB6 hx5
            have hcv6 := HcvA.out W6 (hB4.trans ((hB5'.trans (hB6.mono hB5'.size)).mono hB4.size))
            have hcvL := conv_left g c T L ln W6 hcell
            rw [← Hstr.out] at hcvL
            go_wp2_with fail
            refine hK.out _ _ ⟨hx6, hcv6⟩ (fun hHeld => ?_)
            clear hK K
            try simp only [Act.put, List.setIfInBounds_toArray, List.set_cons_zero, List.set_cons_succ]
            refine wpAnyH_ready (rs := [14]) (by kernel_rfl) (by simp) ?_
            refine AllReadyH.cons (o := _) (drop_get rfl) (fun K hK => ?_) AllReadyH.nil
            go_simp
            refine hK.out _ _ ⟨hx6, hcv6⟩ (fun hHeld => ?_)
            clear hK K
            try simp only [Act.put, List.setIfInBounds_toArray, List.set_cons_zero, List.set_cons_succ]
            refine wpAnyH_take (i := 19) (oi := _) (v := ?_) (drop_get rfl) (by kernel_rfl) (by kernel_rfl) (by kernel_rfl) (fun _ _ _ h => h) (Or.inl ⟨by rfl, ?_⟩) (by assumption) ?_
            rotate_left
            · intro W hSw
              (try dsimp only at hSw)
              go_simp
              all_goals (with_reducible rfl)
            try simp only [Act.put, List.setIfInBounds_toArray, List.set_cons_zero, List.set_cons_succ]
            refine wpAnyH_take (i := 20) (oi := _) (v := ?_) (drop_get rfl) (by kernel_rfl) (by kernel_rfl) (by kernel_rfl) (fun _ _ _ h => h) (Or.inl ⟨by rfl, ?_⟩) (by assumption) ?_
            rotate_left
            · intro W hSw
              (try dsimp only at hSw)
              go_simp
              all_goals (with_reducible rfl)
            try simp only [Act.put, List.setIfInBounds_toArray, List.set_cons_zero, List.set_cons_succ]
            refine wpAnyH_done (by kernel_rfl) ?_ _
            refine NoPanic.normal ?_
            have hB6' : Below W4.heap.size W4 W6 := hB5'.trans (hB6.mono hB5'.size)
            have hr6 : Run w W6 bx bs bb bc q r L 0 T ln m4 := hr5.later hB6'
            clear hcvL hcv4 hcv5 hcv6 HcvA Hstr Hcall hsl hfl hHeld hB5 hB6 hB5' hB6' hcell h5 hg
            go_wp2
            go_roundw
            case rel => exact ⟨k + 1, by omega, by go_num, T, m4, rfl, hr6⟩
            case measure => simp [intOf]; omega
    · obtain rfl : k = D := by omega
      go_wp2_with fail
      refine (awake_any wr).mono ?_
      rintro e W11 ⟨rfl, hB11⟩
      go_wp2
      go_ret
      exact ⟨rfl, hr3.below.trans (hB11.mono hr3.below.size)⟩
end Go.Proofs.Ytcjfeknkjjphfaa
