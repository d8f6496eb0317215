/-
  Left hands back a copy of the bytes that have not been read; with a line laid.
-/
import Derived.Test.YtcjfeknkjjphfaaNow
import Derived.Laws.CopyOwn
import Derived.Deep.DrawnRows
namespace Go.Proofs.Ytcjfeknkjjphfaa
open Go.RowKit
attribute [local go_sem ↓] Go.wp_at_zero Go.wp_at_succ

set_option maxHeartbeats 2000000 in
theorem left_any (bs bb bc L t : Nat) (inn : Int) (ln m : Nat → Int) (w : World) (h : St w bs bb bc L inn t ln m) :
    Calls Try.prog 14 #[ptr bc] w fun e w' => ∃ g c, e = .returned (.slice (some ⟨g, 0, none⟩) (L - t) c) ∧ g < w'.heap.size ∧ (∀ j, j < L - t → w'.cell? ⟨g, j, none⟩ = some (.int .u8 (ln (t + j)))) ∧ Below w.heap.size w w' := by
  have hL := h.hL
  have ht := h.ht
  obtain ⟨N, hN⟩ : ∃ N, N = L - t := ⟨_, rfl⟩
  rw [← hN]
  have hmk := fun W => run_make_row' (P := Try.prog) 25 5 (.int .u8 0) 1 Try.underlying25 info5 rfl .i64 .i64 N (by omega) (by omega) W
  have hsub : (L : Int) - (t : Int) = (N : Int) := by omega
  have hNL : t + N = L := by omega
  have HN := Lib.hid hN
  have HNL := Lib.hid hNL
  clear hN hNL
  have hc0 : w.cell? ⟨bc, 0, none⟩ = some (ptr bs) := h.c.cell 0
  have hc3 : w.cell? ⟨bc, 3, none⟩ = some (.int .i64 L) := h.c.cell 3
  go_enter Try.func14, Try.ntmps14
  go_wp2_with (go_at_call 20; go_in)
  have hcall := in_any bs bb bc t 65792 L inn m w.drew (h.below ((Below.refl _ w).drew)).toSrc (by omega)
  have Hcall := Lib.hid hcall
  clear hcall
  go_region_held3 (fun W => W.cell? ⟨bc, 3, none⟩ = some (.int .i64 L)) (go_keep)
    (first | (go_at_call 28; refine Hcall.out.mono ?_; rintro e W1 ⟨rfl, hB1⟩; have hx0 : W1.cell? ⟨bc, 3, none⟩ = some (.int .i64 L) := cell_later hB1 hc3))
  have hBw : Below w.heap.size w W1 := (Below.refl _ w).drew.trans hB1
  have h1 := h.below hBw
  have G0 := World.rowIs_made W1 (.int .u8 0) N 5
  obtain ⟨W2, hW2⟩ : ∃ W2, W2 = W1.alloc (.cells (madeCells #[.int .u8 0] N) 5) := ⟨_, rfl⟩
  rw [← hW2] at G0
  have hB2 : Below W1.heap.size W1 W2 := by rw [hW2]; exact (Below.refl _ W1).alloc (Nat.le_refl _) _
  clear Hcall hB1 hx0 hc0 hc3
  go_wp2
  rw [← hW2]
  clear hW2 hmk
  have hg1 : W1.heap.size < W2.heap.size := G0.lt
  obtain ⟨G, hG⟩ : ∃ G, G = W1.heap.size := ⟨_, rfl⟩
  rw [← hG] at G0 hg1 hB2 ⊢
  have hGw : w.heap.size ≤ G := by rw [hG]; exact hBw.size
  have hB3 : Below w.heap.size w W2 := hBw.trans ((hG ▸ hB2).mono hBw.size)
  clear hG
  go_loopw [6, 26] (fun _ i wr => ∃ k : Nat, k ≤ N ∧ i = .int .i64 k ∧ Below w.heap.size w wr ∧ ∃ f, wr.rowIs G 5 N f) (fun _ i _ => N - (intOf i).toNat)
  case atStart => exact ⟨0, Nat.zero_le _, rfl, hB3, _, G0⟩
  case round =>
    obtain ⟨k, hk, rfl, hBr, f, hr⟩ := hrel
    by_cases hlt : k < N
    · have hck := hr.cell hlt
      have hfk := hr.frozen k
      have HB := Lib.hid hBr
      have HR := Lib.hid hr
      clear hBr hr
      obtain ⟨v, hv⟩ : ∃ v, v = f k := ⟨_, rfl⟩
      rw [← hv] at hck
      clear hv
      go_wp2
      go_roundw
      case rel => exact ⟨k + 1, by omega, by go_num, HB.out.setCell (p := ⟨G, k, none⟩) hGw _, _, HR.out.set k _⟩
      case measure => simp [intOf]; omega
    · obtain rfl : k = N := by omega
      have h4 := h.below hBr
      go_wp2_with fail
      refine (inside_any bs bb bc L inn _ h4.s h4.c h4.hL).mono ?_
      rintro e w' ⟨rfl, nq, rfl⟩
      obtain ⟨W5, hW5⟩ : ∃ W5, W5 = wr.drewN nq := ⟨_, rfl⟩
      rw [← hW5]
      have hr5 : W5.rowIs G 5 k f := by rw [hW5]; exact hr
      have hB5 : Below w.heap.size w W5 := by rw [hW5]; exact below_drewN hBr nq
      clear hW5 hBr hr h4
      have h5 := h.below hB5
      have hNL := HNL.out
      by_cases hlt2 : t < L
      · have hc0 : W5.cell? ⟨bc, 0, none⟩ = some (ptr bs) := h5.c.cell 0
        have hc2 : W5.cell? ⟨bc, 2, none⟩ = some (.int .i64 65792) := h5.c.cell 2
        clear hNL
        have e1 : IntKind.i64.wrap (65792 + (t : Int)) = 65792 + (t : Int) := IntWalk.i64_in _ (by omega)
        have e2 : IntKind.i64.wrap (k : Int) = (k : Int) := IntWalk.i64_in _ (by omega)
        have e3 : IntKind.i64.wrap ((L : Int) - (t : Int)) = (k : Int) := by rw [hsub]; exact e2
        have hmx : (if (t : Int) < 0 then (0 : Int) else (t : Int)) = (t : Int) := if_neg (by omega)
        have hcall := bytes_pos bs bb (65792 + (t : Int)) (k : Int) m W5.drew h5.s.drew h5.b.drew (by omega) (by omega) (by omega)
        have Hcall := Lib.hid hcall
        clear hcall
        go_wp2_with fail
        go_region_held3 (fun W => W.cell? ⟨bc, 0, none⟩ = some (ptr bs) ∧ W.cell? ⟨bc, 2, none⟩ = some (.int .i64 65792)) (go_keep)
          (first | (go_at_call 11; (with_reducible refine Hcall.out.mono ?_); rintro e w6 ⟨g, c, rfl, hg1, hg2, hg3, hB6⟩; have hx0 : w6.cell? ⟨bc, 0, none⟩ = some (ptr bs) := cell_later hB6 hc0; have hx2 : w6.cell? ⟨bc, 2, none⟩ = some (.int .i64 65792) := cell_later hB6 hc2))
        all_goals
          have hr6 : w6.rowIs G 5 k f := row_below hr5.drew hB6 hr5.lt
          have hB7 : Below w.heap.size w w6 := hB5.drew.trans (hB6.mono hB5.size)
          obtain ⟨cur, hcur, hsz, _⟩ := hr6
          have hcs : ∀ j v, (news (fun j => ln (t + j)) k)[j]? = some v → w6.cell? ((⟨g, 0, none⟩ : Addr).add j) = some v := by
            intro j v hv
            have hj : j < k := by
              rcases Nat.lt_or_ge j k with h | h
              · exact h
              · rw [List.getElem?_eq_none (by rw [news_length]; exact h)] at hv; cases hv
            rw [news_get _ k j hj] at hv
            cases hv
            have := HNL.out
            rw [addr_add, Nat.zero_add, hg3 j (by omega), show (65792 + (t : Int) - 65536).toNat + j = 256 + (t + j) from by omega, h5.line _ (by omega)]
          have hone : ∀ v ∈ news (fun j => ln (t + j)) k, v.oneCell' = true := by
            intro u hu
            obtain ⟨j, _, rfl⟩ := List.mem_map.1 hu
            rfl
          have hcur2 : w6.heap[G]? = some (.cells cur.toList.toArray 5 (0, 0)) := hcur
          have Hcur := Lib.hid hcur2
          have hk2 : (news (fun j => ln (t + j)) k).length = Nat.min k k := by rw [news_length]; exact (Nat.min_self k).symm
          have hk3 : 0 + (news (fun j => ln (t + j)) k).length ≤ cur.toList.length := by rw [news_length, Array.length_toList, hsz]; omega
          have Hk2 := Lib.hid hk2
          have Hk3 := Lib.hid hk3
          have Hsz := Lib.hid hsz
          have Hcs := Lib.hid hcs
          have Hone := Lib.hid hone
          clear hcur hcur2 hsz hcs hone hg3 hk2 hk3 hx0 hx2 Hcall
          go_wp2_with (with_reducible refine wpList_copy_splice rfl (.tmp 71) (.tmp 72) 25 25 rfl 5 Try.underlying25 (by kernel_rfl) (some ⟨G, 0, none⟩) (some ⟨g, 0, none⟩) k k k c rfl rfl G 0 cur.toList 5 Hcur.out (news (fun j => ln (t + j)) k) Hk2.out (fun _ => ⟨rfl, _, rfl, Hcs.out⟩) Hk3.out Hone.out w.heap.size w hB7 hGw ?_)
          intro w8 hw8 hB8
          go_wp2
          go_ret
          have h8 := hw8.out
          have hsp : splice cur.toList 0 (news (fun j => ln (t + j)) k) = news (fun j => ln (t + j)) k := by
            have e : cur.toList.drop (0 + (news (fun j => ln (t + j)) k).length) = [] := List.drop_eq_nil_of_le (by rw [news_length, Array.length_toList, Hsz.out]; omega)
            unfold splice
            rw [e]
            simp
          rw [hsp] at h8
          have hlt8 : G < w8.heap.size := (Array.getElem?_eq_some_iff.1 h8).1
          refine ⟨G, _, rfl, hlt8, fun j hj => ?_, hB8⟩
          rw [cell_of_row w8 G j _ 5 (0, 0) h8]
          simpa using news_get (fun j => ln (t + j)) k j hj
      · go_wp2
        go_ret
        exact ⟨G, _, rfl, hr5.lt, fun j hj => by omega, hB5⟩
end Go.Proofs.Ytcjfeknkjjphfaa
