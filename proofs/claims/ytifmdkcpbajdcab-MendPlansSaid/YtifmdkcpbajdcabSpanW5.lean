/- Walks: a step begins at a time; neighbours that are alike become one. -/
import Derived.Test.YtifmdkcpbajdcabSpanW4
import Derived.Deep.RegionWith
namespace Go.Proofs.Ytifmdkcpbajdcab
open Go.RowKit Go.Proofs Plain

theorem owns_sl {w : World} {base : Nat} {A : Option Addr} {c : Nat} {l : Prof} (h : Owns w base A c l) : Sl w 2 A l.length (stepCells l) := Sl.of_own h

theorem owns_at {w : World} {base : Nat} {A : Option Addr} {c : Nat} {l : Prof} (h : Owns w base A c l) (hl : 0 < l.length) : ∃ g, A = some ⟨g, 0, none⟩ ∧ base ≤ g ∧ g < w.heap.size ∧ l.length ≤ c ∧ c ≤ maxLen ∧
    ∃ cur : Array Value, w.heap[g]? = some (.cells cur 90 (0, 0)) ∧ cur.size = c * 2 := by
  rcases h.2 with ⟨hv, hn⟩ | ⟨g, cap, cur, hv, h1, h2, h3, h4, h5, _⟩
  · omega
  · injection hv with e1 _ e2
    subst e2
    exact ⟨g, e1, h1, (Array.getElem?_eq_some_iff.1 h2).1, h3, h4, cur, h2, h5⟩

set_option maxRecDepth 100000 in
set_option maxHeartbeats 4000000 in
theorem split_any (l : Prof) (A : Option Addr) (c base : Nat) (t : Int) (w : World) (hown : Owns w base A c l) (hb : base ≤ w.heap.size) (hw : WGood l) (hm : l.length ≤ 900) (ht : 0 ≤ t ∧ t ≤ 300) :
    Calls Try.prog 65 #[.slice A l.length c, .int .i64 t] w (RetOwn base (splitL l t) w) := by
  have hpos : 0 < l.length := by obtain ⟨x, r, rfl, _⟩ := hw; simp
  have hr := hw.rises
  have hsl := owns_sl hown
  obtain ⟨g, rfl, hbg, hgw, hlc, hcm, cur, hg, hcs⟩ := owns_at hown hpos
  have hcnt : cnt l t ≤ l.length := by unfold cnt; exact List.Sublist.length_le (List.takeWhile_sublist _)
  by_cases hh : hasAt l t = true
  · have HF := Lib.hid (show splitL l t = l by simp [splitL, hh])
    go_enter Try.func65, Try.ntmps65
    go_wp2_with (go_at_call 80; refine (search_any l g 0 c t _ hsl hr (by omega) ht).mono ?_; rintro e w1 ⟨rfl, hb1⟩)
    go_ret
    exact ⟨_, c, by rw [HF.out]; rfl, by rw [HF.out]; exact own_below hown hb1, hb1.mono hb⟩
  · have hh : hasAt l t = false := by simpa using hh
    have hm1 : l.length ≤ 1000 := by omega
    by_cases h3 : 300 ≤ t
    · have HF := Lib.hid (show splitL l t = l by simp [splitL, h3])
      go_enter Try.func65, Try.ntmps65
      go_wp2_with (go_at_call 80; refine (search_any l g 0 c t _ hsl hr hm1 ht).mono ?_; rintro e w1 ⟨rfl, hb1⟩)
      go_ret
      exact ⟨_, c, by rw [HF.out]; rfl, by rw [HF.out]; exact own_below hown hb1, hb1.mono hb⟩
    · have hk0 : 0 < cnt l t := by
        obtain ⟨x, r, rfl, _⟩ := hw
        have h0 : (0 : Int) < t := by
          have : t ≠ 0 := by rintro rfl; simp [hasAt] at hh
          omega
        simp [cnt, List.takeWhile, h0]
      have HF := Lib.hid (show splitL l t = l.take (cnt l t) ++ (t, (l.getD (cnt l t - 1) (0, 0)).2) :: l.drop (cnt l t) by simp [splitL, hh, h3])
      obtain ⟨k, hk⟩ : ∃ k, cnt l t = k + 1 := ⟨_, (Nat.succ_pred_eq_of_pos hk0).symm⟩
      have HK := Lib.hid hk
      have hkl : k + 1 ≤ l.length := by omega
      obtain ⟨b', off', e, _, hcells⟩ := steps_at hsl hpos
      injection e with e
      injection e with e1 e2
      subst e1; subst e2
      obtain ⟨_, c2⟩ := hcells k (by omega)
      simp only [Nat.zero_add] at c2
      rw [hk, Nat.add_sub_cancel] at HF
      clear hcells hk hk0 hcnt
      generalize (l.getD k (0, 0)).2 = y at c2 HF
      have hw1 : IntKind.i64.wrap ((k : Int) + 1 - 1) = (k : Int) := by rw [IntWalk.i64_in _ (by omega)]; omega
      by_cases hend : k + 1 = l.length
      · have hd : l.drop (k + 1) = [] := List.drop_eq_nil_of_le (by omega)
        have htk : l.take (k + 1) = l := List.take_of_length_le (by omega)
        have HF2 := Lib.hid (show splitL l t = l ++ [(t, y)] by rw [HF.out, hd, htk])
        clear hd htk HF
        have HF := HF2
        have HE := Lib.hid hend
        clear hend
        go_enter Try.func65, Try.ntmps65
        go_wp2_with (go_at_call 80; refine (search_any l g 0 c t _ hsl hr hm1 ht).mono ?_; rintro e w1 ⟨rfl, hb1⟩; rw [HK.out]; obtain ⟨hc1, hf1⟩ := olds hb1; have hz1 := hb1.size)
        have ho1 : Owns (w1.alloc (.cells #[.int .i64 t, .int .i64 y] 90)) base (some ⟨g, 0, none⟩) c l := (own_below hown hb1).alloc _
        have hv1 : (w1.alloc (.cells #[.int .i64 t, .int .i64 y] 90)).heap[w1.heap.size]? = some (.cells #[.int .i64 t, .int .i64 y] 90 (0, 0)) := heap_alloc_new w1 _
        have hbb : Below base w (w1.alloc (.cells #[.int .i64 t, .int .i64 y] 90)) := (hb1.mono hb).alloc (by omega) _
        rw [show ((k : Int) + 1) = ((k + 1 : Nat) : Int) from by omega]
        rw [HE.out]
        refine (insert_end l (some ⟨g, 0, none⟩) c base w1.heap.size (t, y) _ ho1 (by simp; omega) (Sl.new w1 #[.int .i64 t, .int .i64 y] 90 rfl) hm1).mono ?_
        rintro e w2 ⟨A2, c3, rfl, hown2, hb2⟩
        go_wp2_with fail
        go_ret
        refine ⟨A2, c3, ret_sl (by rw [HF.out]; simp <;> omega), by rw [HF.out]; exact hown2, hbb.trans hb2⟩
      · by_cases hroom : l.length + 1 ≤ c
        · go_enter Try.func65, Try.ntmps65
          go_wp2_with (go_at_call 80; refine (search_any l g 0 c t _ hsl hr hm1 ht).mono ?_; rintro e w1 ⟨rfl, hb1⟩; rw [HK.out]; obtain ⟨hc1, hf1⟩ := olds hb1; have hz1 := hb1.size)
          have ho1 : Owns (w1.alloc (.cells #[.int .i64 t, .int .i64 y] 90)) base (some ⟨g, 0, none⟩) c l := (own_below hown hb1).alloc _
          have hv1 : (w1.alloc (.cells #[.int .i64 t, .int .i64 y] 90)).heap[w1.heap.size]? = some (.cells #[.int .i64 t, .int .i64 y] 90 (0, 0)) := heap_alloc_new w1 _
          have hbb : Below base w (w1.alloc (.cells #[.int .i64 t, .int .i64 y] 90)) := (hb1.mono hb).alloc (by omega) _
          rw [show ((k : Int) + 1) = ((k + 1 : Nat) : Int) from by omega]
          refine (insert_room l g c base w1.heap.size (k + 1) (t, y) _ ho1 hv1 (by omega) hm1 (by omega) hroom).mono ?_
          rintro e w2 ⟨A2, c3, rfl, hown2, hb2⟩
          go_wp2_with fail
          go_ret
          refine ⟨A2, c3, ret_sl (by rw [HF.out]; simp <;> omega), by rw [HF.out]; exact hown2, hbb.trans hb2⟩
        · obtain rfl : c = l.length := by omega
          go_enter Try.func65, Try.ntmps65
          go_wp2_with (go_at_call 80; refine (search_any l g 0 l.length t _ hsl hr hm1 ht).mono ?_; rintro e w1 ⟨rfl, hb1⟩; rw [HK.out]; obtain ⟨hc1, hf1⟩ := olds hb1; have hz1 := hb1.size)
          have ho1 : Owns (w1.alloc (.cells #[.int .i64 t, .int .i64 y] 90)) base (some ⟨g, 0, none⟩) l.length l := (own_below hown hb1).alloc _
          have hv1 : (w1.alloc (.cells #[.int .i64 t, .int .i64 y] 90)).heap[w1.heap.size]? = some (.cells #[.int .i64 t, .int .i64 y] 90 (0, 0)) := heap_alloc_new w1 _
          have hbb : Below base w (w1.alloc (.cells #[.int .i64 t, .int .i64 y] 90)) := (hb1.mono hb).alloc (by omega) _
          rw [show ((k : Int) + 1) = ((k + 1 : Nat) : Int) from by omega]
          refine (insert_grow l g base w1.heap.size (k + 1) (t, y) _ ho1 (by simp; omega) hv1 hm1 (by omega)).mono ?_
          rintro e w2 ⟨A2, c3, rfl, hown2, hb2⟩
          go_wp2_with fail
          go_ret
          refine ⟨A2, c3, ret_sl (by rw [HF.out]; simp <;> omega), by rw [HF.out]; exact hown2, hbb.trans hb2⟩
end Go.Proofs.Ytifmdkcpbajdcab
