/-
  The walk of SourceBack: it returns true, and writes nothing that was there; at every slice of bytes and every two ints.
-/
import Derived.Test.YtcjfeknkjjphfaaAwake
import Derived.Maps.AppendAt
import Derived.Deep.AppendLies
namespace Go.Proofs.Ytcjfeknkjjphfaa
open Go.RowKit

set_option maxRecDepth 100000 in
set_option maxHeartbeats 1000000 in
theorem back_out (A : Option Addr) (len cap : Nat) (n m : Int) (w : World) (hlen : len ≤ 9223372036854775807) (h : 1024 < len ∨ n < 0 ∨ 40 < n ∨ m < 0 ∨ 40 < m) :
    Calls Try.prog 6 #[.slice A len cap, .int .i64 n, .int .i64 m] w fun e w' => e = .returned (.bool true) ∧ Below w.heap.size w w' := by
  have hA := awake_any w
  have HA := Lib.hid hA
  clear hA
  by_cases h1 : 1024 < len
  · go_enter Try.func6, Try.ntmps6
    go_wp2_with (go_at_call 7; refine HA.out.mono ?_; rintro e W ⟨rfl, hB⟩)
    go_ret
    exact ⟨rfl, hB⟩
  · by_cases h2 : n < 0
    · go_enter Try.func6, Try.ntmps6
      go_wp2_with (go_at_call 7; refine HA.out.mono ?_; rintro e W ⟨rfl, hB⟩)
      go_ret
      exact ⟨rfl, hB⟩
    · by_cases h3 : 40 < n
      · go_enter Try.func6, Try.ntmps6
        go_wp2_with (go_at_call 7; refine HA.out.mono ?_; rintro e W ⟨rfl, hB⟩)
        go_ret
        exact ⟨rfl, hB⟩
      · by_cases h4 : m < 0
        · go_enter Try.func6, Try.ntmps6
          go_wp2_with (go_at_call 7; refine HA.out.mono ?_; rintro e W ⟨rfl, hB⟩)
          go_ret
          exact ⟨rfl, hB⟩
        · have h5 : 40 < m := by omega
          go_enter Try.func6, Try.ntmps6
          go_wp2_with (go_at_call 7; refine HA.out.mono ?_; rintro e W ⟨rfl, hB⟩)
          go_ret
          exact ⟨rfl, hB⟩

/-- where reading stands behind k names -/
def tAt (L t : Nat) (ps : List (Nat × Nat)) : Nat → Nat
  | 0 => t
  | k + 1 => nxt (ps.getD k (0, 0)).2 L
/-- the names that are read from t on, one behind the other -/
def Steps (ln : Nat → Int) (L t : Nat) (ps : List (Nat × Nat)) : Prop :=
  ∀ k, k < ps.length → Find (fun x => !isD 32 x) ln (tAt L t ps k) L (ps.getD k (0, 0)).1 ∧ Find (isD 32) ln (ps.getD k (0, 0)).1 L (ps.getD k (0, 0)).2

theorem getD_left (ps : List (Nat × Nat)) (p : Nat × Nat) (k : Nat) (h : k < ps.length) : (ps ++ [p]).getD k (0, 0) = ps.getD k (0, 0) := by
  simp [List.getD, List.getElem?_append_left h]
theorem getD_last (ps : List (Nat × Nat)) (p : Nat × Nat) : (ps ++ [p]).getD ps.length (0, 0) = p := by
  simp [List.getD]
theorem tAt_left (L t : Nat) (ps : List (Nat × Nat)) (p : Nat × Nat) (k : Nat) (h : k ≤ ps.length) : tAt L t (ps ++ [p]) k = tAt L t ps k := by
  cases k with
  | zero => rfl
  | succ k => simp only [tAt]; rw [getD_left ps p k (by omega)]
theorem tAt_last (L t : Nat) (ps : List (Nat × Nat)) (p : Nat × Nat) : tAt L t (ps ++ [p]) (ps.length + 1) = nxt p.2 L := by
  simp only [tAt]; rw [getD_last]
theorem Steps.nil (ln : Nat → Int) (L t : Nat) : Steps ln L t [] := fun k h => by simp at h
theorem Steps.snoc {ln : Nat → Int} {L t : Nat} {ps : List (Nat × Nat)} {i r : Nat} (h : Steps ln L t ps) (h1 : Find (fun x => !isD 32 x) ln (tAt L t ps ps.length) L i) (h2 : Find (isD 32) ln i L r) : Steps ln L t (ps ++ [(i, r)]) := by
  intro k hk
  rw [List.length_append, List.length_singleton] at hk
  rcases Nat.lt_or_ge k ps.length with hlt | hge
  · rw [tAt_left _ _ _ _ _ (by omega), getD_left _ _ _ hlt]
    exact h k hlt
  · obtain rfl : k = ps.length := by omega
    rw [tAt_left _ _ _ _ _ (Nat.le_refl _), getD_last]
    exact ⟨h1, h2⟩

/-- what stays while names are read: the source with its line, the four pointers, and all that was there -/
structure Run (w wr : World) (bx bs bb bc q r L : Nat) (inn : Int) (t : Nat) (ln m : Nat → Int) : Prop where
  st : St wr bs bb bc L inn t ln m
  x : Blk wr bx 33 #[ptr bs, ptr bc, ptr q, ptr r]
  below : Below w.heap.size w wr
  lb : w.heap.size ≤ bb
  lc : w.heap.size ≤ bc

theorem Run.grown {w wr W : World} {bx bs bb bc q r L t t' : Nat} {inn : Int} {ln m m' : Nat → Int} (h : Run w wr bx bs bb bc q r L inn t ln m) (hg : wr.grownBy W (some bb)) (hst : St W bs bb bc L inn t' ln m') : Run w W bx bs bb bc q r L inn t' ln m' :=
  ⟨hst, h.x.grown hg (by simpa using h.x.ne_row h.st.b (by decide)), h.below.trans ((Only2.of_grown (c := bc) hg).below h.below.size h.lb h.lc), h.lb, h.lc⟩
theorem Run.only {w wr W : World} {bx bs bb bc q r L t t' : Nat} {inn inn' : Int} {ln m m' : Nat → Int} (h : Run w wr bx bs bb bc q r L inn t ln m) (hg : Only2 bb bc wr W) (hst : St W bs bb bc L inn' t' ln m') : Run w W bx bs bb bc q r L inn' t' ln m' :=
  ⟨hst, hg.blk h.x (h.x.ne_row h.st.b (by decide)) (h.x.ne_ h.st.c (by decide)), h.below.trans (hg.below h.below.size h.lb h.lc), h.lb, h.lc⟩
theorem Run.later {w wr W : World} {bx bs bb bc q r L t : Nat} {inn : Int} {ln m : Nat → Int} (h : Run w wr bx bs bb bc q r L inn t ln m) (hB : Below wr.heap.size wr W) : Run w W bx bs bb bc q r L inn t ln m :=
  ⟨h.st.below hB, h.x.below hB h.x.lt, h.below.trans (hB.mono h.below.size), h.lb, h.lc⟩

theorem own_blk_ne {w : World} {g base size n : Nat} {t e : TypeId} {cs : Array Value} {v : Value} {xs : List Value} (h : w.ownsRow base e size v n xs) (hg : Blk w g t cs) (hne : e ≠ t) : v.ownBlock ≠ some g := by
  rcases h.2 with ⟨rfl, _⟩ | ⟨g', cap, cur, rfl, _, hh, _⟩
  · simp [Value.ownBlock]
  · intro he
    have : g' = g := by simpa [Value.ownBlock] using he
    subst this
    exact Blk.ne_ (t := e) hh hg hne rfl
theorem own_row_ne {w : World} {g base size n k : Nat} {t e : TypeId} {f : Nat → Value} {v : Value} {xs : List Value} (h : w.ownsRow base e size v n xs) (hg : w.rowIs g t k f) (hne : e ≠ t) : v.ownBlock ≠ some g := by
  obtain ⟨c, hc, _⟩ := hg
  exact own_blk_ne h (cs := c) hc hne

/-- an append to a row of ints of the call's own -/
theorem Run.app {w W W' : World} {bx bs bb bc q r L t n : Nat} {inn : Int} {ln m : Nat → Int} {v : Value} {xs : List Value} (h : Run w W bx bs bb bc q r L inn t ln m) (ho : W.ownsRow w.heap.size 3 1 v n xs) (hg : W.grownBy W' v.ownBlock) : Run w W' bx bs bb bc q r L inn t ln m :=
  ⟨⟨⟨h.st.s.grown hg (Ne.symm (own_blk_ne ho h.st.s (by decide))), row_grown h.st.b hg (Ne.symm (own_row_ne ho h.st.b (by decide))), h.st.c.grown hg (Ne.symm (own_blk_ne ho h.st.c (by decide))), h.st.tin, h.st.tl⟩, h.st.line, h.st.hL, h.st.ht⟩,
    h.x.grown hg (Ne.symm (own_blk_ne ho h.x (by decide))), h.below.grown hg h.below.size (fun k e => (ho.lt k e).1), h.lb, h.lc⟩

theorem own_only {w w' : World} {b c base size n : Nat} {e : TypeId} {v : Value} {xs : List Value} (h : w.ownsRow base e size v n xs) (hO : Only2 b c w w') (h1 : v.ownBlock ≠ some b) (h2 : v.ownBlock ≠ some c) : w'.ownsRow base e size v n xs := by
  obtain ⟨hl, hh⟩ := h
  refine ⟨hl, ?_⟩
  rcases hh with h0 | ⟨g, cap, cur, rfl, hg, hb, r⟩
  · exact .inl h0
  · have hlt : g < w.heap.size := (Array.getElem?_eq_some_iff.1 hb).1
    exact .inr ⟨g, cap, cur, rfl, hg, (hO.block g hlt (fun e => h1 (by rw [← e]; rfl)) (fun e => h2 (by rw [← e]; rfl))).trans hb, r⟩

/-- two rows that share no block -/
def Apart (v u : Value) : Prop := v.ownBlock = none ∨ u.ownBlock = none ∨ v.ownBlock ≠ u.ownBlock
theorem Apart.kept {v u : Value} (h : Apart v u) : u.ownBlock = none ∨ u.ownBlock ≠ v.ownBlock := by
  rcases h with h | h | h
  · rw [h]
    cases u.ownBlock with
    | none => exact .inl rfl
    | some x => exact .inr (by simp)
  · exact .inl h
  · exact .inr (Ne.symm h)
theorem Apart.symm {v u : Value} (h : Apart v u) : Apart u v := by
  rcases h with h | h | h
  · exact .inr (.inl h)
  · exact .inl h
  · exact .inr (.inr (Ne.symm h))
theorem Apart.app {w : World} {v u : Value} {g n c base size k : Nat} {e : TypeId} {xs : List Value} (h : Apart v u) (hu : w.ownsRow base e size u k xs) (hat : v.ownBlock = some g ∨ g = w.heap.size) : Apart (.slice (some ⟨g, 0, none⟩) n c) u := by
  have eg : (Value.slice (some ⟨g, 0, none⟩) n c).ownBlock = some g := rfl
  rcases hat with hat | hat
  · rcases h with h | h | h
    · rw [h] at hat; cases hat
    · exact .inr (.inl h)
    · exact .inr (.inr (by rw [eg, ← hat]; exact h))
  · refine .inr (.inr ?_)
    rw [eg]
    intro e2
    have := (hu.lt g e2.symm).2
    omega

theorem info3 : (Try.prog.info? 3).map (fun i => (i.zero, i.size, i.bytes)) = some (some (.int .i64 0), 1, 8) := by kernel_rfl
def ats (ps : List (Nat × Nat)) : List Value := ps.map fun p => .int .i64 (65792 + (p.1 : Int))
def lens (ps : List (Nat × Nat)) : List Value := ps.map fun p => .int .i64 ((p.2 : Int) - p.1)
theorem ats_snoc (ps : List (Nat × Nat)) (i r : Nat) : ats (ps ++ [(i, r)]) = ats ps ++ [.int .i64 (65792 + (i : Int))] := by simp [ats]
theorem lens_snoc (ps : List (Nat × Nat)) (i r : Nat) : lens (ps ++ [(i, r)]) = lens ps ++ [.int .i64 ((r : Int) - i)] := by simp [lens]

set_option maxRecDepth 100000 in
set_option maxHeartbeats 4000000 in
theorem back_in_ (A : Option Addr) (len cap : Nat) (ln : Nat → Int) (n m : Int) (w : World) (hlen : len ≤ 1024) (hr : Reads8 w A len ln) (n0 : 0 ≤ n) (n1 : n ≤ 40) (m0 : 0 ≤ m) (m1 : m ≤ 40) :
    Calls Try.prog 6 #[.slice A len cap, .int .i64 n, .int .i64 m] w fun e w' => e = .returned (.bool true) ∧ Below w.heap.size w w' := by
  obtain ⟨N, rfl⟩ : ∃ N : Nat, n = (N : Int) := ⟨n.toNat, by omega⟩
  obtain ⟨M, rfl⟩ : ∃ M : Nat, m = (M : Int) := ⟨m.toNat, by omega⟩
  go_enter Try.func6, Try.ntmps6
  go_wp2_with fail
  refine (begun_any w).mono ?_
  rintro e W1 ⟨bx, bs, bb, bc, q, r, m1, rfl, hb, hB1⟩
  have hx0 : W1.cell? ⟨bx, 0, none⟩ = some (ptr bs) := hb.x.cell 0
  have hx1 : W1.cell? ⟨bx, 1, none⟩ = some (ptr bc) := hb.x.cell 1
  go_wp2_with fail
  refine (lay_any bs bb bc len cap A m1 ln W1 hb.s hlen (hr.below hB1)).mono ?_
  rintro e W2 ⟨m2, rfl, h2, hO2⟩
  have hrun : Run w W2 bx bs bb bc q r len 0 0 ln m2 :=
    ⟨h2, hO2.blk hb.x (hb.x.ne_row hb.s.b (by decide)) (hb.x.ne_ hb.s.c (by decide)), hB1.trans (hO2.below hB1.size hb.lb hb.lc), hb.lb, hb.lc⟩
  clear hx0 hx1 hb hB1 h2 hO2
  go_wp2_with fail
  go_loopw [8] (fun i wr => ∃ k : Nat, k ≤ N ∧ i = .int .i64 k ∧ ∃ t m', Run w wr bx bs bb bc q r len 0 t ln m') (fun i _ => N - (intOf i).toNat)
  case atStart => exact ⟨0, Nat.zero_le _, rfl, 0, m2, hrun⟩
  case round =>
    obtain ⟨k, hk, rfl, t, m3, hr3⟩ := hrel
    have hx1 : wr.cell? ⟨bx, 1, none⟩ = some (ptr bc) := hr3.x.cell 1
    by_cases hlt : k < N
    · go_wp2_with fail
      refine (name_any bs bb bc len t 0 ln m3 wr hr3.st).mono ?_
      rintro e W4 ⟨i, r4, m4, rfl, hf1, hf2, h4, hg4⟩
      have hr4 := hr3.grown hg4 h4
      clear hf1 hf2 h4 hg4 hx1
      go_wp2
      go_roundw
      case rel => exact ⟨k + 1, by omega, by go_num, _, _, hr4⟩
      case measure => simp [intOf]; omega
    · obtain rfl : k = N := by omega
      go_wp2_with fail
      refine (now_any bs bb bc len t 0 ln m3 wr hr3.st).mono ?_
      rintro e W4 ⟨rfl, hB4⟩
      have hr4 := hr3.later hB4
      clear hrun hr3 hB4 hx1
      unfold spec5
      have hbw := Blk.new W4 45 #[.int .i64 0, .int .i64 65792, .int .i64 len, .int .i64 t, .int .i64 0]
      have hrun5 := hr4.later ((Below.refl _ W4).alloc (Nat.le_refl _) (.cells #[.int .i64 0, .int .i64 65792, .int .i64 len, .int .i64 t, .int .i64 0] 45))
      obtain ⟨bw, hbwe⟩ : ∃ bw, bw = W4.heap.size := ⟨_, rfl⟩
      obtain ⟨W5, hW5⟩ : ∃ W5, W5 = W4.alloc (.cells #[.int .i64 0, .int .i64 65792, .int .i64 len, .int .i64 t, .int .i64 0] 45) := ⟨_, rfl⟩
      rw [← hW5, ← hbwe] at hbw
      rw [← hW5] at hrun5
      go_wp2_with fail
      rw [← hW5, ← hbwe]
      clear hW5 hbwe hr4
      go_loopw [10, 11, 12] (fun va vl i wr => ∃ k : Nat, k ≤ M ∧ i = .int .i64 k ∧ ∃ ps m', ps.length = k ∧ Steps ln len t ps ∧ Run w wr bx bs bb bc q r len 0 (tAt len t ps k) ln m' ∧ Blk wr bw 45 #[.int .i64 0, .int .i64 65792, .int .i64 len, .int .i64 t, .int .i64 0] ∧ wr.ownsRow w.heap.size 3 1 va k (ats ps) ∧ wr.ownsRow w.heap.size 3 1 vl k (lens ps) ∧ Apart va vl) (fun _ _ i _ => M - (intOf i).toNat)
      case atStart => exact ⟨0, Nat.zero_le _, rfl, [], _, rfl, Steps.nil _ _ _, hrun5, hbw, World.ownsRow_nil _ _ _ _, World.ownsRow_nil _ _ _ _, .inl rfl⟩
      case round =>
        obtain ⟨k2, hk2, rfl, ps, m5, hps, hst, hr5, hw5, hoa, hol, hap⟩ := hrel
        have hx1 : wr.cell? ⟨bx, 1, none⟩ = some (ptr bc) := hr5.x.cell 1
        by_cases hlt2 : k2 < M
        · go_wp2_with fail
          refine (name_any bs bb bc len _ 0 ln m5 wr hr5.st).mono ?_
          rintro e W6 ⟨i, r6, m6, rfl, hf1, hf2, h6, hg6⟩
          have hr6 := hr5.grown hg6 h6
          have hw6 := hw5.grown hg6 (by simpa using hw5.ne_row hr5.st.b (by decide))
          have hoa6 := hoa.kept hg6 (.inr (own_row_ne hoa hr5.st.b (by decide)))
          have hol6 := hol.kept hg6 (.inr (own_row_ne hol hr5.st.b (by decide)))
          rw [← hps] at hf1
          have hst' := hst.snoc hf1 hf2
          have HST := Lib.hid hst'
          have HPS := Lib.hid hps
          clear hst hst' hf1 hf2 h6 hg6 hr5 hw5 hoa hol hx1 hps
          obtain ⟨i0, hi, hz0, hz1, hz2⟩ := info_parts info3
          have Hi := Lib.hid hi
          have Hz0 := Lib.hid hz0
          have Hz1 := Lib.hid hz1
          have Hz2 := Lib.hid hz2
          clear hi hz0 hz1 hz2
          have z6 := hr6.below.size
          go_wp2_with (at_builtin; refine wpList_append_lies _ rfl (.tmp 88) (.tmp 90) 23 rfl w.heap.size 3 i0 (.int .i64 0) 1 8 Try.underlying23 Hi.out Hz0.out Hz1.out Hz2.out rfl (by decide) u10 k2 (ats ps) rfl (hoa6.alloc _) ⟨W6.heap.size, 0, none⟩ 1 1 [.int .i64 (65792 + (i : Int))] rfl rfl (cell_one_new _ _ _) (by simp [Value.oneCell']) (by omega) (by unfold maxLen; omega) (by omega) (by simp; omega) (W6.heap.size + 1) (by simp) ?_)
          intro g1 c1 W7 hown1 hgr1 hat1 hlt7
          have HA0 := hoa6.alloc (.cells #[.int .i64 (65792 + (i : Int))] 3)
          have HL0 := hol6.alloc (.cells #[.int .i64 (65792 + (i : Int))] 3)
          have hr7 := (hr6.later ((Below.refl _ W6).alloc (Nat.le_refl _) (.cells #[.int .i64 (65792 + (i : Int))] 3))).app HA0 hgr1
          have hw7 := (hw6.alloc (.cells #[.int .i64 (65792 + (i : Int))] 3)).grown hgr1 (Ne.symm (own_blk_ne HA0 (hw6.alloc _) (by decide)))
          have hol7 := HL0.kept hgr1 hap.kept
          have hap7 : Apart (.slice (some ⟨g1, 0, none⟩) (k2 + 1) c1) u11 := hap.app HL0 (by simpa using hat1)
          clear HA0 HL0 hr6 hw6 hoa6 hol6 hgr1 hat1 hap
          have z7 := hr7.below.size
          go_wp2_with (at_builtin; refine wpList_append_lies _ rfl (.tmp 92) (.tmp 94) 23 rfl w.heap.size 3 i0 (.int .i64 0) 1 8 Try.underlying23 Hi.out Hz0.out Hz1.out Hz2.out rfl (by decide) u11 k2 (lens ps) rfl (hol7.alloc _) ⟨W7.heap.size, 0, none⟩ 1 1 [.int .i64 ((r6 : Int) - (i : Int))] rfl rfl (cell_one_new _ _ _) (by simp [Value.oneCell']) (by omega) (by unfold maxLen; omega) (by omega) (by simp; omega) (W7.heap.size + 1) (by simp) ?_)
          intro g2 c2 W8 hown2 hgr2 hat2 hlt8
          have HA0 := hown1.alloc (.cells #[.int .i64 ((r6 : Int) - (i : Int))] 3)
          have HL0 := hol7.alloc (.cells #[.int .i64 ((r6 : Int) - (i : Int))] 3)
          have hr8 := (hr7.later ((Below.refl _ W7).alloc (Nat.le_refl _) (.cells #[.int .i64 ((r6 : Int) - (i : Int))] 3))).app HL0 hgr2
          have hw8 := (hw7.alloc (.cells #[.int .i64 ((r6 : Int) - (i : Int))] 3)).grown hgr2 (Ne.symm (own_blk_ne HL0 (hw7.alloc _) (by decide)))
          have hoa8 := HA0.kept hgr2 hap7.symm.kept
          have hap8 : Apart (.slice (some ⟨g2, 0, none⟩) (k2 + 1) c2) (.slice (some ⟨g1, 0, none⟩) (k2 + 1) c1) := hap7.symm.app HA0 (by simpa using hat2)
          rw [← ats_snoc ps i r6] at hoa8
          rw [← lens_snoc ps i r6] at hown2
          have hr8' : Run w W8 bx bs bb bc q r len 0 (tAt len t (ps ++ [(i, r6)]) (k2 + 1)) ln m6 := by
            rw [← HPS.out, tAt_last]; exact hr8
          clear HA0 HL0 hr7 hw7 hown1 hol7 hgr2 hat2 hap7 hr8
          go_wp2
          go_roundw
          case rel => exact ⟨k2 + 1, by omega, by go_num, ps ++ [(i, r6)], m6, by rw [List.length_append, HPS.out]; rfl, HST.out, hr8', hw8, hoa8, hown2, hap8.symm⟩
          case measure => simp [intOf]; omega
        · obtain rfl : k2 = M := by omega
          go_wp2_with fail
          have x1 : wr.cell? ⟨bx, 1, none⟩ = some (ptr bc) := hx1
          have y0 : wr.cell? ⟨bw, 0, none⟩ = some (.int .i64 0) := hw5.cell 0
          have y1 : wr.cell? ⟨bw, 1, none⟩ = some (.int .i64 65792) := hw5.cell 1
          have y2 : wr.cell? ⟨bw, 2, none⟩ = some (.int .i64 len) := hw5.cell 2
          have y3 : wr.cell? ⟨bw, 3, none⟩ = some (.int .i64 t) := hw5.cell 3
          have y4 : wr.cell? ⟨bw, 4, none⟩ = some (.int .i64 0) := hw5.cell 4
          have ht0 := hrun5.st.ht
          have hcall := set_any bs bb bc len (tAt len t ps k2) t 0 ln m5 wr.drew (hr5.st.below ((Below.refl _ wr).drew)) ht0
          have Hcall := Lib.hid hcall
          clear hcall hx1
          unfold spec5 at Hcall
          have n1 : bx ≠ bb := hr5.x.ne_row hr5.st.b (by decide)
          have n2 : bx ≠ bc := hr5.x.ne_ hr5.st.c (by decide)
          have n3 : bw ≠ bb := hw5.ne_row hr5.st.b (by decide)
          have n4 : bw ≠ bc := hw5.ne_ hr5.st.c (by decide)
          go_region_held3 (fun W => W.cell? ⟨bx, 1, none⟩ = some (ptr bc) ∧ W.cell? ⟨bw, 0, none⟩ = some (.int .i64 0) ∧ W.cell? ⟨bw, 1, none⟩ = some (.int .i64 65792) ∧ W.cell? ⟨bw, 2, none⟩ = some (.int .i64 len) ∧ W.cell? ⟨bw, 3, none⟩ = some (.int .i64 t) ∧ W.cell? ⟨bw, 4, none⟩ = some (.int .i64 0)) (go_keep)
            (first | (go_at_call 16; (with_reducible refine Hcall.out.mono ?_); rintro e W9 ⟨m9, rfl, h9, hO9⟩; have hX : Only2 bb bc wr W9 := ⟨hO9.os, hO9.tape, hO9.output, hO9.size, hO9.block⟩; have X9 := hX.blk hr5.x n1 n2; have Y9 := hX.blk hw5 n3 n4; have x19 : W9.cell? ⟨bx, 1, none⟩ = some (ptr bc) := X9.cell 1; have y09 : W9.cell? ⟨bw, 0, none⟩ = some (.int .i64 0) := Y9.cell 0; have y19 : W9.cell? ⟨bw, 1, none⟩ = some (.int .i64 65792) := Y9.cell 1; have y29 : W9.cell? ⟨bw, 2, none⟩ = some (.int .i64 len) := Y9.cell 2; have y39 : W9.cell? ⟨bw, 3, none⟩ = some (.int .i64 t) := Y9.cell 3; have y49 : W9.cell? ⟨bw, 4, none⟩ = some (.int .i64 0) := Y9.cell 4))
          have hr9 := hr5.only hX h9
          have hoa9 := own_only hoa hX (own_row_ne hoa hr5.st.b (by decide)) (own_blk_ne hoa hr5.st.c (by decide))
          have hol9 := own_only hol hX (own_row_ne hol hr5.st.b (by decide)) (own_blk_ne hol hr5.st.c (by decide))
          clear x1 y0 y1 y2 y3 y4 hO9 hX Hcall hoa hol h9 hr5 hw5 X9 hap
          have hcall := now_any bs bb bc len t t ln m9 W9.drew (hr9.st.below ((Below.refl _ W9).drew))
          have Hcall := Lib.hid hcall
          clear hcall
          unfold spec5 at Hcall
          go_wp2_with fail
          go_region_held3 (fun W => W.cell? ⟨bx, 1, none⟩ = some (ptr bc) ∧ W.cell? ⟨bw, 0, none⟩ = some (.int .i64 0) ∧ W.cell? ⟨bw, 1, none⟩ = some (.int .i64 65792) ∧ W.cell? ⟨bw, 2, none⟩ = some (.int .i64 len) ∧ W.cell? ⟨bw, 3, none⟩ = some (.int .i64 t) ∧ W.cell? ⟨bw, 4, none⟩ = some (.int .i64 0)) (go_keep)
            (first | (go_at_call 15; (with_reducible refine Hcall.out.mono ?_); rintro e W10 ⟨rfl, hB10⟩; have x20 : W10.cell? ⟨bx, 1, none⟩ = some (ptr bc) := cell_later hB10 x19; have z0 : W10.cell? ⟨bw, 0, none⟩ = some (.int .i64 0) := cell_later hB10 y09; have z1 : W10.cell? ⟨bw, 1, none⟩ = some (.int .i64 65792) := cell_later hB10 y19; have z2 : W10.cell? ⟨bw, 2, none⟩ = some (.int .i64 len) := cell_later hB10 y29; have z3 : W10.cell? ⟨bw, 3, none⟩ = some (.int .i64 t) := cell_later hB10 y39; have z4 : W10.cell? ⟨bw, 4, none⟩ = some (.int .i64 0) := cell_later hB10 y49))
          have hB10' : Below W9.heap.size W9 W10 := (Below.refl _ W9).drew.trans hB10
          have hr10 := hr9.later hB10'
          have hoa10 := hoa9.kept (row := none) ⟨hB10'.os, hB10'.tape, hB10'.output, hB10'.size, fun k hk _ => hB10'.block k hk⟩ (by cases u10.ownBlock <;> simp)
          have hol10 := hol9.kept (row := none) ⟨hB10'.os, hB10'.tape, hB10'.output, hB10'.size, fun k hk _ => hB10'.block k hk⟩ (by cases u11.ownBlock <;> simp)
          clear x19 y09 y19 y29 y39 y49 x20 z0 z1 z2 z3 z4 Hcall hr9 hoa9 hol9 hB10 hB10' Y9
          have HST := Lib.hid hst
          have HPS := Lib.hid hps
          clear hst hps
          rcases Nat.eq_zero_or_pos k2 with rfl | hpos
          · go_wp2_with fail
            refine wp_loop_rounds 1 ?_
            rw [rounds_succ]
            go_wp2_with fail
            refine (awake_any W10).mono ?_
            rintro e W11 ⟨rfl, hB11⟩
            go_wp2
            go_ret
            exact ⟨rfl, hr10.below.trans (hB11.mono hr10.below.size)⟩
          · obtain ⟨ga, ca, rfl, _, _⟩ := hoa10.form hpos
            obtain ⟨gl, cl, rfl, _, _⟩ := hol10.form hpos
            go_wp2_with fail
            go_loopw [15] (fun i wr => ∃ k : Nat, k ≤ k2 ∧ i = .int .i64 k ∧ ∃ m', Run w wr bx bs bb bc q r len t (tAt len t ps k) ln m' ∧ wr.ownsRow w.heap.size 3 1 (.slice (some ⟨ga, 0, none⟩) k2 ca) k2 (ats ps) ∧ wr.ownsRow w.heap.size 3 1 (.slice (some ⟨gl, 0, none⟩) k2 cl) k2 (lens ps)) (fun i _ => k2 - (intOf i).toNat)
            case atStart => exact ⟨0, Nat.zero_le _, rfl, _, hr10, hoa10, hol10⟩
            case round =>
              obtain ⟨k3, hk3, rfl, m11, hr11, hoa11, hol11⟩ := hrel
              have hx1 : wr.cell? ⟨bx, 1, none⟩ = some (ptr bc) := hr11.x.cell 1
              by_cases hlt3 : k3 < k2
              · go_wp2_with fail
                refine (name_any bs bb bc len _ t ln m11 wr hr11.st).mono ?_
                rintro e W12 ⟨i, r12, m12, rfl, hf1, hf2, h12, hg12⟩
                have hgv := HST.out k3 (by rw [HPS.out]; exact hlt3)
                have ei := hf1.uniq hgv.1
                rw [← ei] at hgv
                have er := hf2.uniq hgv.2
                have hr12 := hr11.grown hg12 h12
                have hoa12 := hoa11.kept hg12 (.inr (own_row_ne hoa11 hr11.st.b (by decide)))
                have hol12 := hol11.kept hg12 (.inr (own_row_ne hol11 hr11.st.b (by decide)))
                have hk4 : k3 < ps.length := by rw [HPS.out]; exact hlt3
                have ega : ps[k3]? = some (ps.getD k3 (0, 0)) := by simp [List.getD, List.getElem?_eq_getElem hk4]
                have hca : W12.cell? ⟨ga, k3, none⟩ = some (.int .i64 (65792 + (i : Int))) := by
                  rw [hoa12.cellAt k3 (by omega), ats, List.getElem?_map, ega, ei]; rfl
                have hcl : W12.cell? ⟨gl, k3, none⟩ = some (.int .i64 ((r12 : Int) - (i : Int))) := by
                  rw [hol12.cellAt k3 (by omega), lens, List.getElem?_map, ega, er, ei]; rfl
                have hrt : Run w W12 bx bs bb bc q r len t (tAt len t ps (k3 + 1)) ln m12 := by
                  simp only [tAt]
                  rw [← er]; exact hr12
                clear hgv ei er hf1 hf2 h12 hg12 hr11 hoa11 hol11 hr12 hk4 ega hx1
                go_wp2
                go_roundw
                case rel => exact ⟨k3 + 1, by omega, by go_num, m12, hrt, hoa12, hol12⟩
                case measure => simp [intOf]; omega
              · obtain rfl : k3 = k2 := by omega
                go_wp2_with fail
                refine (awake_any wr).mono ?_
                rintro e W11 ⟨rfl, hB11⟩
                go_wp2
                go_ret
                exact ⟨rfl, hr11.below.trans (hB11.mono hr11.below.size)⟩
end Go.Proofs.Ytcjfeknkjjphfaa
