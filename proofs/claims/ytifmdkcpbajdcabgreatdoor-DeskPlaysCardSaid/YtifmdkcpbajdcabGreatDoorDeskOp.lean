/- Walks: what a desk is told, all in all; its port and plan; a new one. -/
import Derived.Test.YtifmdkcpbajdcabGreatDoorDeskTo
set_option linter.unusedVariables false
set_option linter.unusedSimpArgs false
set_option maxHeartbeats 8000000
namespace Go.Proofs.YtifmdkcpbajdcabGreatDoor
open Go.RowKit Go.Proofs Plain
open Go.Act renaming put -> aP, eval -> aE
open Go.Lib renaming hid -> hd_
set_option maxRecDepth 100000 in
theorem tell_full (G : Nat -> Prop) (g : Nat) (d : Desk) (s : ByteArray) (w : World) (hD : DeskAt w G g d) (h250 : 250 <= d.acts) (hi : d.acts <= 1000) :
    Calls Tryz.prog 11 #[.pointer (some ⟨g, 0, none⟩), .string s] w (RetD G g (.agg #[.int .i64 5, .int .i64 0]) d w) := by
  have hgl := hD.lt
  have hall := hD.all
  have hown := hD.own
  have hc18 : w.cell? ⟨g, 18, none⟩ = some (.int .i64 d.acts) := by
    obtain ⟨A, c, B, cB, K0, v2, v3, v4, v5, v6, v7, v8, v9, v10, v11, v12, v13, v14, v15, hv, hb, -⟩ := hD.at_
    exact hb.cell 18
  have hDq := desk_start hD #[.int .i64 0, .int .i64 0]
  have hTq : Tn g w (w.alloc (.cells #[.int .i64 0, .int .i64 0] 29)) := Tn.of_below ((Below.refl _ _).alloc (Nat.le_refl _) _)
  have hRq := RpAt.new w 0 0
  have d250 : decide (250 <= (d.acts : Int)) = true := by simp; omega
  clear hD
  obtain ⟨ac, hac⟩ : ∃ ac : Nat, d.acts = ac := ⟨_, rfl⟩
  rw [hac] at hc18 d250 h250 hi
  clear hac
  obtain ⟨W6, hW6⟩ : ∃ W6, W6 = w.alloc (.cells #[.int .i64 0, .int .i64 0] 29) := ⟨_, rfl⟩
  rw [<- hW6] at hDq hTq hRq
  go_enter Tryz.func11, Tryz.ntmps11
  go_wp2_with fail
  rw [<- hW6]
  clear hW6 hc18 d250
  refine (no_ans 5 _).mono ?_
  rintro e w9 ⟨rfl, hb9⟩
  have hD9 := DeskAt.below hDq hb9
  have hT9 := hTq.after hb9 hTq.size
  have hR9 := RpAt.below hRq hb9 (RpAt.lt hRq)
  have c0 := hR9.cell0
  have c1 := hR9.cell1
  have f0 := hR9.frozen 0
  have f1 := hR9.frozen 1
  clear hDq hTq hRq hb9
  have HE := hd_ (tell_end (a := 0) (b := 0) (c := 5) (m := 0) hD9 hall hown hT9 rfl)
  have HR := hd_ hR9
  clear hD9 hT9 hR9
  go_wp2_with fail
  refine bodyPost_ret (ans_end rfl rfl HR.out) rfl ?_
  exact HE.out
theorem lim64 {n : Int} (h : inLim n = true) : i64 n := by
  simp only [inLim, Bool.and_eq_true, decide_eq_true_eq] at h
  unfold i64; omega
theorem tellD_any (Bt : Nat) (G : Nat -> Prop) (g : Nat) (d : Desk) (s : ByteArray) (w : World) (hD : DeskAt w G g d) (hk : DOk d) (hL : LineAt Bt w) (hgB : Bt <= g) (hs : s.size <= maxLen) (hi : d.acts <= 1000) :
    Calls Tryz.prog 11 #[.pointer (some ⟨g, 0, none⟩), .string s] w
      (RetD G g (.agg #[.int .i64 (tellD d s.data.toList).2.1, .int .i64 (tellD d s.data.toList).2.2]) (tellD d s.data.toList).1 w) := by
  by_cases ha : 250 <= d.acts
  · have e : tellD d s.data.toList = (d, 5, 0) := by unfold tellD; rw [if_pos ha]
    rw [e]; exact tell_full G g d s w hD ha hi
  obtain ⟨p, was, ac⟩ := d
  have hac : ac < 250 := by dsimp only at ha; omega
  have hset := hk.now
  dsimp only at hset ha
  have hg := hset.good
  cases hp : parseL s.data.toList with
  | none =>
    have e : tellD ⟨p, was, ac⟩ s.data.toList = (⟨p, was, ac + 1⟩, 1, 0) := by unfold tellD; rw [if_neg ha, hp]
    rw [e]; exact tell_no Bt G g p was ac s w hD hL hgB hs hac hp
  | some o =>
    have e : tellD ⟨p, was, ac⟩ s.data.toList = (⟨(actL p was o).1, (actL p was o).2.1, ac + 1⟩, (actL p was o).2.2) := by unfold tellD; rw [if_neg ha, hp]
    rw [e]
    have hgo := parse_good hp
    obtain ⟨g1, g2, g3, _⟩ := (goodO_iff _).1 hgo
    obtain ⟨kd, oa, ob, oc⟩ := o
    dsimp only at g1 g2 g3
    have hoa := lim64 g3
    unfold actL
    dsimp only
    by_cases k9 : kd = 9
    · subst k9
      rw [if_pos rfl]
      by_cases hr : oa < 1 \/ 300 - p.now <= oa
      · rw [if_pos hr]; exact tell_wait0 Bt G g p was ac s w hD hL hgB hs hac hp hg hoa hr
      · rw [if_neg hr]; exact tell_wait1 Bt G g p was ac s w hD hL hgB hs hac hp hset (by omega) (by omega)
    rw [if_neg k9]
    by_cases k10 : kd = 10
    · subst k10
      rw [if_pos rfl]
      cases was with
      | none => exact tell_begin1 Bt G g p none ac s w hD hL hgB hs hac hp rfl
      | some q => exact tell_begin0 Bt G g p (some q) ac s w hD hL hgB hs hac hp q rfl
    rw [if_neg k10]
    by_cases k11 : kd = 11
    · subst k11
      rw [if_pos rfl]
      cases was with
      | none => exact tell_commit0 Bt G g p none ac s w hD hL hgB hs hac hp rfl
      | some q => exact tell_commit1 Bt G g p (some q) ac s w hD hL hgB hs hac hp q rfl
    rw [if_neg k11]
    by_cases k12 : kd = 12
    · subst k12
      rw [if_pos rfl]
      cases was with
      | none => exact tell_undo0 Bt G g p none ac s w hD hL hgB hs hac hp rfl
      | some q => exact tell_undo1 Bt G g p (some q) ac s w hD hL hgB hs hac hp q rfl
    rw [if_neg k12]
    by_cases k13 : kd = 13
    · subst k13
      rw [if_pos rfl]
      have h := tell_guess Bt G g p was ac s w hD hL hgB hs hac hp hg (hd_ rfl) (hd_ rfl)
      by_cases hr : (tellL p ⟨1, oa, ob, oc⟩).2.2 ≠ 0
      · rw [if_pos hr] at h ⊢; exact h
      · rw [if_neg hr] at h ⊢
        rw [show (tellL p ⟨1, oa, ob, oc⟩).2.2 = 0 by simpa using hr] at h
        exact h
    rw [if_neg k13]
    by_cases k14 : kd = 14
    · subst k14
      rw [if_pos rfl]
      exact tell_ask Bt G g p was ac s w hD hL hgB hs hac hp hg hoa (hd_ rfl) (hd_ rfl)
    rw [if_neg k14]
    by_cases hr : (tellL p ⟨kd, oa, ob, oc⟩).2.2 ≠ 0
    · rw [if_pos hr]
      exact tell_refuse Bt G g p was ac s w hD hL hgB hs hac hp g1 (by omega) hg (hd_ rfl) hr
    · rw [if_neg hr]
      exact tell_order Bt G g p was ac s w hD hL hgB hs hac hp g1 (by omega) hg (hd_ rfl) (hd_ (by simpa using hr))
def RetOwnI (l : List Int) (w : World) (e : Ending) (w' : World) : Prop :=
  ∃ A c, e = .returned (.slice A l.length c) /\ w'.ownsRow w.heap.size 3 1 (.slice A l.length c) l.length (l.map (Value.int .i64)) /\ Below w.heap.size w w'
theorem int_inf : (Tryz.prog.info? 3).map (fun i => (i.zero, i.size, i.bytes)) = some (some (.int .i64 0), 1, 8) := by kernel_rfl
set_option maxRecDepth 100000 in
theorem cloneI_any (l : List Int) (A : Option Addr) (c : Nat) (w : World) (h : Sl w 1 A l.length (l.map (Value.int .i64))) (hm : l.length <= 100000) :
    Calls Tryz.prog 33 #[.slice A l.length c] w (RetOwnI l w) := by
  obtain ⟨i0, hi0, hz0, hz1, hz2⟩ := info_parts int_inf
  have hnil := fun w' : World => Lib.run_eql_slice_nil (P := Tryz.prog) w' (t := 38)
  cases A with
  | none =>
    have hl : l.length = 0 := by
      rcases Nat.eq_zero_or_pos l.length with h0 | h0
      · exact h0
      · obtain ⟨b, off, e, _⟩ := h.2 (by omega); cases e
    obtain rfl : l = [] := List.eq_nil_of_length_eq_zero hl
    go_enter Tryz.func33, Tryz.ntmps33
    go_wp2_with fail
    go_ret
    exact ⟨none, 0, rfl, ⟨rfl, .inl ⟨rfl, rfl⟩⟩, Below.refl _ _⟩
  | some ad =>
    go_enter Tryz.func33, Tryz.ntmps33
    go_wp2_with (at_builtin; refine wpList_append_own _ rfl (.tmp 5) (.tmp 6) 38 rfl w.heap.size 3 i0 _ 1 8 Tryz.underlying38 hi0 hz0 hz1 hz2 rfl (by omega) (.slice (some ⟨w.heap.size, 0, none⟩) 0 0) 0 [] rfl (own_empty w _ _ _ (Nat.le_refl _)) ad l.length c (l.map (Value.int .i64)) rfl ?c1 ?c2 (by intro u hu; obtain ⟨x, _, rfl⟩ := List.mem_map.1 hu; rfl) ?c3 ?c4 ?c5 ?_)
    case c1 => simp
    case c2 =>
      intro j u hj
      have hpos : 0 < l.length * 1 := by
        have := (List.getElem?_eq_some_iff.1 hj).1
        rw [h.1] at this; omega
      obtain ⟨b, off, e, _⟩ := h.2 hpos
      injection e with e
      subst e
      exact (h.alloc _).news j u hj
    case c3 => unfold maxLen; omega
    case c4 => omega
    case c5 => simp
    intro v' w1 hown hgrow _
    obtain ⟨A, c', rfl⟩ := own_form hown
    go_wp2_with fail
    go_ret
    refine ⟨A, c', by simp, by simpa using hown, ((Below.refl _ _).alloc (Nat.le_refl _) _).grown hgrow (by simp) ?_⟩
    intro k hk; simp [Value.ownBlock] at hk; omega
set_option maxRecDepth 100000 in
theorem planD_any (G : Nat -> Prop) (g : Nat) (d : Desk) (w : World) (hD : DeskAt w G g d) (hg : PGood d.p) :
    Calls Tryz.prog 13 #[.pointer (some ⟨g, 0, none⟩)] w (RetOwnI (thP d.p) w) := by
  obtain ⟨A, c, B, cB, K0, v2, v3, v4, v5, v6, v7, v8, v9, v10, v11, v12, v13, v14, v15, hv, hb, hrA, hrB, -⟩ := hD.at_
  have hc16 : w.cell? ⟨g, 16, none⟩ = some (.slice B (thP d.p).length cB) := hb.cell 16
  have hC := cloneI_any (thP d.p) B cB w hrB.1 (by rw [plan_len hg]; have := hg.len; omega)
  have HC := hd_ hC
  clear hv hb hrA hrB hD hg hC
  go_enter Tryz.func13, Tryz.ntmps13
  go_wp2_with fail
  refine HC.out.mono ?_
  rintro e w2 ⟨A2, c2, rfl, ho2, hb2⟩
  have HO := hd_ ho2
  clear ho2
  go_wp2_with fail
  go_ret
  exact ⟨A2, c2, rfl, HO.out, hb2⟩
set_option maxRecDepth 100000 in
theorem portD_any (G : Nat -> Prop) (g : Nat) (d : Desk) (w : World) (hD : DeskAt w G g d) (hg : PGood d.p) :
    Calls Tryz.prog 12 #[.pointer (some ⟨g, 0, none⟩)] w (RetOwnP d.p w) := by
  obtain ⟨p, was, ac⟩ := d
  dsimp only at hg ⊢
  have hgl := hD.lt
  obtain ⟨A, c, B, cB, K0, v2, v3, v4, v5, v6, v7, v8, v9, v10, v11, v12, v13, v14, v15, hv, hb, hrA, hrB, -⟩ := hD.at_
  dsimp only at hv hb hrA
  have hin : InP w p A := hrA.1
  have hlen : p.ships.length <= 100000 := by have := hg.len; omega
  have hone := portA_one p A c
  have hP0 : PortAt (w.alloc (.cells (portA Port.zero none 0) 36)) w.heap.size Port.zero none 0 := PortAt.new w Port.zero none 0
  have hb0 := DkBox.below hb ((Below.refl _ _).alloc (Nat.le_refl _) (.cells (portA Port.zero none 0) 36)) hgl
  have hcl := fun w h => cloneK_any p.ships A c w h hlen
  have HC := hd_ hcl
  have HV := hd_ hv
  rw [hv] at hone
  simp only [portA, Port.zero, Port.keep, Kept.zero, List.getD_cons_zero, List.getD_cons_succ, List.length_nil] at hP0 hb0
  clear hv hrA hrB hb hD hg hcl hlen
  go_enter Tryz.func12, Tryz.ntmps12
  go_upto_region 4 with (first
    | (refine wpList_load_in rfl rfl (by first | rfl | simp [aE, aP]) hb0 rfl ?_)
    | (refine wpList_store_box rfl rfl (by first | rfl | simp [aE, aP]) (by first | rfl | simp [aE, aP]) (BoxAt.new _ _) rfl rfl hone ?_; intro w3 h3 hr3))
  have hB3 : Below w.heap.size w w3 := (((Below.refl _ _).alloc (Nat.le_refl _) _).alloc (by simp) _).trans (hr3.below (by simp))
  have hZ3 : PortAt w3 w.heap.size Port.zero none 0 := (hr3.block w.heap.size (by simp)).trans (PortAt.alloc (p := Port.zero) hP0 _)
  have hP3 : PortAt w3 (w.heap.size + 1) p A c := by
    unfold PortAt; rw [HV.out]; rw [World.size_alloc] at h3; exact h3
  have hsz3 : w.heap.size + 1 < w3.heap.size := hP3.lt
  have hx0 := hP3.ships
  clear hP0 hb0 hr3 h3 hone
  go_wp2_with fail
  refine (HC.out _ (Sl.below hin hB3)).mono ?_
  rintro e w2 ⟨A2, c2, rfl, ho2, hb2⟩
  have hP2 := PortAt.below hP3 hb2 hsz3
  have hZ2 := PortAt.below hZ3 hb2 (by omega)
  have hB2 := bG_ hB3 hb2
  have hx1 := hP2.frozen 1
  have hx2 := hP2.ships
  have hP4 : PortAt (w2.setCell ⟨w.heap.size + 1, 1, none⟩ (.slice A2 p.ships.length c2)) (w.heap.size + 1) p A2 c2 := hP2.put 1 _ p A2 c2 rfl
  have hZ4 := hZ2.beside ⟨w.heap.size + 1, 1, none⟩ (.slice A2 p.ships.length c2) (by simp)
  have hB4 := hB2.setCell (p := ⟨w.heap.size + 1, 1, none⟩) (by simp) (.slice A2 p.ships.length c2)
  have ho4 := own_one ho2 (OneRow.of_cell w2 ⟨w.heap.size + 1, 1, none⟩ (.slice A2 p.ships.length c2)) (by simp; omega)
  clear hP3 hZ3 hB3 hb2 hB2 hZ2 hx0 HC HV hin
  go_wp2_with (first
    | (refine wLP rfl rfl (by first | rfl | simp [aE, aP]) hP4 ?_)
    | (refine wSP rfl rfl (by first | rfl | simp [aE, aP]) (by first | rfl | simp [aE, aP]) hZ4 ?_; intro w5 hZ5 hr5))
  refine bodyPost_ret (results_port rfl _ _ w.heap.size rfl hZ5) rfl ?_
  exact ⟨A2, c2, rfl, own_weak (own_one ho4 hr5 (by omega)) (by omega), hB4.trans (hr5.below (Nat.le_refl _))⟩
def RetNewD (w : World) (e : Ending) (w' : World) : Prop :=
  ∃ g, e = .returned (.pointer (some ⟨g, 0, none⟩)) /\ w.heap.size <= g /\ Below w.heap.size w w' /\ g < w'.heap.size /\ ∀ G : Nat -> Prop, G g -> (∀ b, G b -> b < w'.heap.size) -> DeskAt w' G g Desk.new
theorem zero_plan : thP Port.zero = [] := List.eq_nil_of_length_eq_zero (by rw [plan_len zero_good]; rfl)
set_option maxRecDepth 100000 in
theorem newD_any (w : World) : Calls Tryz.prog 20 #[] w (RetNewD w) := by
  have HN := hd_ newPort_any
  go_enter Tryz.func20, Tryz.ntmps20
  go_wp2_with fail
  refine (HN.out _).mono ?_
  rintro e w1 ⟨rfl, hb1⟩
  simp only [portA, Port.zero, Port.keep, Kept.zero, List.getD_cons_zero, List.getD_cons_succ, List.length_nil]
  go_wp2_with fail
  go_ret
  refine ⟨w1.heap.size, rfl, hb1.size, hb1.trans ((Below.refl _ _).alloc hb1.size _), by simp, fun G hg hall => ?_⟩
  refine ⟨hg, hall, none, 0, none, 0, none, _, _, _, _, _, _, _, _, _, _, _, _, _, _, rfl, ?_, ⟨Sl.zero _ _ _, fun h => absurd h (by simp [Desk.new, Port.zero])⟩, ?_, rfl⟩
  · have h := heap_alloc_new w1 (.cells #[.int .i64 0, .slice none 0 0, .int .i64 0, .int .i64 0, .int .i64 0, .int .i64 0, .int .i64 0, .int .i64 0, .int .i64 0, .int .i64 0, .int .i64 0, .int .i64 0, .int .i64 0, .int .i64 0, .int .i64 0, .int .i64 0, .slice none 0 0, .pointer none, .int .i64 0] 68)
    unfold DkBox
    have e : Desk.new.p = Port.zero := rfl
    rw [e, zero_plan]
    simp only [Desk.new, Port.zero, List.length_nil, Port.keep, Kept.zero, List.getD_cons_zero, List.getD_cons_succ]
    exact h
  · simp only [Desk.new, zero_plan, List.length_nil, List.map_nil]
    exact ⟨Sl.zero _ _ _, fun h => absurd h (by simp)⟩
end Go.Proofs.YtifmdkcpbajdcabGreatDoor
