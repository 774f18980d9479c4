/- Walks: what a port is told, within a desk: the drawn region; a guess. -/
import Derived.Test.YtifmdkcpbajdcabGreatDoorDeskQ
import Derived.Test.YtifmdkcpbajdcabGreatDoorTellV
set_option linter.unusedVariables false
set_option linter.unusedSimpArgs false
namespace Go.Proofs.YtifmdkcpbajdcabGreatDoor
open Go.RowKit Go.Proofs Plain
open List renaming getElem_toArray -> lsA, getElem_cons_zero -> lsB, getElem_cons_succ -> lsC, setIfInBounds_toArray -> lsD, set_cons_zero -> lsE, set_cons_succ -> lsF
open Go.Act renaming put -> aP, eval -> aE
open Go.Lib renaming hid -> hd_
theorem exec_load_od {o : Oper} {a : Act} {w : World} {x : Operand} {g : Nat} {q : Order} (ho : o.op = .load 41 x) (hx : a.eval x = .pointer (some ⟨g, 0, none⟩)) (hf : OrdAt w g q) :
    (execOp a.eval o).run Tryz.prog w = .ok (.value (.agg (ordA q))) w := by
  unfold execOp
  simp only [ho, hx, Instr.loadAt, Instr.sureAddr, Sem.run_bind, Sem.run_pure, Result.andThen_ok, run_loadVar_row w g 41 41 (ordA q) (0, 0) _ hf Tryz.underlying41 rfl order_size]
section
variable {o : Oper} {a : Act} {w : World} {Q : Exit -> Act -> World -> Prop} {K : Act -> World -> Prop}
theorem oSB {x y : Operand} {g : Nat} {us vs : Array Value} (ho : o.op = .store 36 x y) (hx : a.eval x = .pointer (some ⟨g, 0, none⟩)) (hy : a.eval y = .agg us) (hf : BoxAt w g vs) (hv : vs.size = 16) (hu : us.size = 16)
    (h1 : us.all (·.oneCell') = true) (h : ∀ w', BoxAt w' g us -> OneRow g w w' -> K (a.put o.dst undef) w') : o.wp Tryz.prog a w K Q :=
  have h := h _ (setRow_heap w g _ us _ _ hf) (OneRow.of_row w g _)
  wp_store_row _ x y ho g _ hx hy _ _ hf (by rw [hu]; exact port_size) (by rw [hv, hu]) h1 h
end
def zeroP : Array Value := portA Port.zero none 0
theorem inP_off {w : World} {q : Port} {A : Option Addr} {k : Nat} (hi : InP w q A) (hz : BoxAt w k zeroP) (hg : PGood q) : Row w (fun b => b = k) 6 A q.ships.length (shC q.ships) := by
  refine ⟨hi, fun hn x hx hk => ?_⟩
  obtain ⟨b, off, e, _, hc⟩ := ships_at hi (by omega)
  have h0 := (hc 0 (by omega)).1
  rw [hx] at e
  injection e with e
  subst e
  dsimp only at hk
  subst hk
  have hs := (hg.ship 0 (by omega)).1.state
  rw [cell_of_row w b _ _ _ _ hz] at h0
  have hst : (q.ships.getD 0 Ship.zero).state = (q.ship 0).state := rfl
  rw [hst] at h0
  have hno : ∀ (j : Nat) (v : Int), zeroP[j]? = some (Value.int .i64 v) -> v = 0 := by
    intro j v hj
    have hl : j < 16 := by
      have := (Array.getElem?_eq_some_iff.1 hj).1
      exact this
    rcases (by omega : j = 0 \/ j = 1 \/ j = 2 \/ j = 3 \/ j = 4 \/ j = 5 \/ j = 6 \/ j = 7 \/ j = 8 \/ j = 9 \/ j = 10 \/ j = 11 \/ j = 12 \/ j = 13 \/ j = 14 \/ j = 15) with rfl | rfl | rfl | rfl | rfl | rfl | rfl | rfl | rfl | rfl | rfl | rfl | rfl | rfl | rfl | rfl <;>
      (have h := Option.some.inj hj; first | (injection h with _ h; exact h.symm) | (injection h))
  have := hno _ _ h0
  omega
def Told (r : Port × Int × Int) (w1 : World) (x5 x6 x7 : Value) (wq : World) : Prop :=
  ∃ k A c, x5 = .pointer (some ⟨k, 0, none⟩) /\ x6 = .int .i64 r.2.1 /\ x7 = .int .i64 r.2.2 /\ BoxAt wq k (portA r.1 A c) /\ InP wq r.1 A /\ Below w1.heap.size w1 wq /\ w1.heap.size <= k
theorem Told.mk {r : Port × Int × Int} {w1 wq : World} {k : Nat} {A : Option Addr} {c : Nat} (h6 : BoxAt wq k (portA r.1 A c)) (hi : InP wq r.1 A) (hb : Below w1.heap.size w1 wq) (hk : w1.heap.size <= k) :
    Told r w1 (.pointer (some ⟨k, 0, none⟩)) (.int .i64 r.2.1) (.int .i64 r.2.2) wq := ⟨k, A, c, rfl, rfl, rfl, h6, hi, hb, hk⟩
def Planned (q : Port) (w1 : World) (x : Value) (wq : World) : Prop := ∃ A c, x = .slice A (thP q).length c /\ Sl wq 1 A (thP q).length ((thP q).map (Value.int .i64)) /\ Below w1.heap.size w1 wq
theorem Planned.mk {q : Port} {w1 wq : World} {A : Option Addr} {c : Nat} (h : Sl wq 1 A (thP q).length ((thP q).map (Value.int .i64))) (hb : Below w1.heap.size w1 wq) : Planned q w1 (.slice A (thP q).length c) wq := ⟨A, c, rfl, h, hb⟩
theorem tellP_any {p : Port} (A : Option Addr) (c : Nat) (o : Order) (hg : PGood p) (w : World) (hi : InP w p A) :
    Calls Tryz.prog 30 #[.agg (portA p A c), .agg (ordA o)] w (RetTellP (tellL p o) w) := tell_good_walk p A c o w hg hi (tellOk_all hg o)
theorem told_good {p : Port} (hg : PGood p) (o : Order) : PGood (tellL p o).1 := (tell_good hg).1
set_option maxRecDepth 100000 in
set_option maxHeartbeats 16000000 in
theorem guess_any (G : Nat -> Prop) (g : Nat) (d : Desk) (o : Order) (w : World) (hD : DeskAt w G g d) (hs : PGood d.p) :
    Calls Tryz.prog 28 #[.pointer (some ⟨g, 0, none⟩), .agg (ordA o)] w
      (RetAns (tellL d.p { o with kind := 1 }).2.2 (if (tellL d.p { o with kind := 1 }).2.2 ≠ 0 then 0 else (thP (tellL d.p { o with kind := 1 }).1).getD (tellL d.p { o with kind := 1 }).2.1.toNat (-1)) w) := by
  have hgl := hD.lt
  obtain ⟨p, was, ac⟩ := d
  obtain ⟨A, c, B, cB, K0, v2, v3, v4, v5, v6, v7, v8, v9, v10, v11, v12, v13, v14, v15, hv, hb, hrA, hrB, -⟩ := hD.at_
  dsimp only at hs hv hb hrA hrB ⊢
  obtain ⟨kd, oa, ob, oc⟩ := o
  dsimp only
  have hTL := fun w h => tellP_any A c ⟨1, oa, ob, oc⟩ hs w h
  have hQG := told_good hs ⟨1, oa, ob, oc⟩
  have hMP := fun A2 c2 w h1 h2 h3 => mend_plan p (tellL p ⟨1, oa, ob, oc⟩).1 A A2 c c2 B cB w hs hQG h1 h2 h3
  have HTO := hd_ (fun (h : (tellL p ⟨1, oa, ob, oc⟩).2.2 = 0) => (told (q := (tellL p ⟨1, oa, ob, oc⟩).1) (n := (tellL p ⟨1, oa, ob, oc⟩).2.1) hs (.inl rfl) (by rw [<- h])).2.2.1 rfl)
  rw [hv] at hTL hMP
  obtain ⟨r, hr⟩ : ∃ r, tellL p ⟨1, oa, ob, oc⟩ = r := ⟨_, rfl⟩
  rw [hr] at hTL hQG hMP HTO ⊢
  obtain ⟨NV, hNV⟩ : ∃ NV, (if r.2.2 ≠ 0 then 0 else (thP r.1).getD r.2.1.toNat (-1)) = NV := ⟨_, rfl⟩
  rw [hNV]
  have HNV := hd_ hNV
  clear hNV
  have HTL := hd_ hTL
  have HMP := hd_ hMP
  have HQG := hd_ hQG
  have hW : Below w.heap.size w ((w.alloc (.cells #[.int .i64 1, .int .i64 oa, .int .i64 ob, .int .i64 oc] 41)).alloc (.cells #[.int .i64 0, .int .i64 0] 29)) := ((Below.refl _ _).alloc (Nat.le_refl _) _).alloc (by simp) _
  have hO := (OrdAt.new w ⟨1, oa, ob, oc⟩).alloc (.cells #[.int .i64 0, .int .i64 0] 29)
  have hR := RpAt.new (w.alloc (.cells #[.int .i64 1, .int .i64 oa, .int .i64 ob, .int .i64 oc] 41)) 0 0
  have hsz : ((w.alloc (.cells #[.int .i64 1, .int .i64 oa, .int .i64 ob, .int .i64 oc] 41)).alloc (.cells #[.int .i64 0, .int .i64 0] 29)).heap.size = w.heap.size + 2 := by simp
  simp only [ordA, World.size_alloc] at hO hR
  simp only [ordA]
  clear hTL hMP hQG hr hv hD hs
  obtain ⟨wq, hwq⟩ : ∃ wq, wq = ((w.alloc (.cells #[.int .i64 1, .int .i64 oa, .int .i64 ob, .int .i64 oc] 41)).alloc (.cells #[.int .i64 0, .int .i64 0] 29)) := ⟨_, rfl⟩
  rw [<- hwq] at hW hO hR hsz
  go_enter Tryz.func28, Tryz.ntmps28
  go_wp2_with fail
  rw [<- hwq]
  clear hwq
  have hdq := DkBox.below hb hW hgl
  have hgq : g < wq.heap.size := by omega
  have hoq : w.heap.size < wq.heap.size := by omega
  have hOq := hO
  have hiq : InP wq p A := Sl.below hrA.1 hW
  have hBq := Sl.below hrB.1 hW
  have HR := hd_ hR
  clear hb hrA hrB hO hR hsz
  go_cut [5, 6, 7] (fun x5 x6 x7 wr => Told r wq x5 x6 x7 wr)
  case first => as_aux_lemma =>
    refine wRP (S := fun w' => Below wq.heap.size wq w') (.take 0 (.take 1 (.take 2 (.take 3 (.take 4 (.take 5 (.two 6 11 (.take 7 (.take 8 (.take 9 (.take 10 (.one 11 (.one 12 (.take 13 (.take 14 (.fin))))))))) (.one 6 (.take 7 (.take 8 (.take 9 (.take 10 (.one 12 (.take 13 (.take 14 (.fin)))))))))))))))) (by kernel_rfl) (by kernel_rfl) (Below.refl _ _).drew ?_
    iterate 4
      refine pT_ (v := ?_) rfl (by rfl) (fun w' hw' => ?_) ?_
      rotate_left
      · go_simp; try with_reducible rfl
      try simp only [aP, lsA, lsB, lsC, lsD, lsE, lsF]
    refine pT_ rfl (by rfl) (fun w' hw' => exec_load_in rfl rfl (DkBox.below hdq hw' hgq)) ?_
    try simp only [aP, lsA, lsB, lsC, lsD, lsE, lsF]
    refine pT_ rfl (by rfl) (fun w' hw' => exec_load_od rfl rfl (OrdAt.below hOq hw' hoq)) ?_
    try simp only [aP, lsA, lsB, lsC, lsD, lsE, lsF]
    refine plan_two ?_ ?_
    · refine pO_ rfl (by rfl) fun K hK => ?_
      go_simp
      go_at_call 30
      refine (HTL.out _ (Sl.below hiq (Below.refl _ _).drew)).mono ?_
      rintro e w5 ⟨A5, c5, rfl, hi5, hb5⟩
      have hB5 : Below wq.heap.size wq w5 := bUn hb5
      refine hK.out _ _ hB5 ?_
      clear hK K
      try simp only [aP, lsA, lsB, lsC, lsD, lsE, lsF]
      iterate 4
        refine pT_ (v := ?_) rfl (by rfl) (fun w' hw' => ?_) ?_
        rotate_left
        · go_simp; try with_reducible rfl
        try simp only [aP, lsA, lsB, lsC, lsD, lsE, lsF]
      refine pO_ rfl (by rfl) fun K hK => ?_
      go_simp
      refine hK.out _ _ (hB5.alloc hB5.size _) ?_
      clear hK K
      try simp only [aP, lsA, lsB, lsC, lsD, lsE, lsF]
      refine pO_ rfl (by rfl) fun K hK => ?_
      refine oSB rfl (by first | rfl | simp [aE, aP]) (by first | rfl | simp [aE, aP]) (BoxAt.new w5 _) rfl rfl (portA_one _ A5 c5) ?_
      intro w6 h6 hr6
      have hB6 : Below wq.heap.size wq w6 := (hB5.alloc hB5.size _).trans (hr6.below hB5.size)
      have hi6 : InP w6 (r).1 A5 := Sl.below hi5 (((Below.refl _ _).alloc (Nat.le_refl _) _).trans (hr6.below (Nat.le_refl _)))
      have HTD := hd_ (Told.mk (r := r) (w1 := wq) h6 hi6 hB6 hB5.size)
      refine hK.out _ _ hB6 ?_
      clear hK K h6 hi6 hr6 hi5 hb5
      try simp only [aP, lsA, lsB, lsC, lsD, lsE, lsF]
      iterate 2
        refine pT_ (v := ?_) rfl (by rfl) (fun w' hw' => ?_) ?_
        rotate_left
        · go_simp; try with_reducible rfl
        try simp only [aP, lsA, lsB, lsC, lsD, lsE, lsF]
      refine pD_ (NoPanic.normal ?_)
      go_wp2_with fail
      go_meet
      exact HTD.out
    · refine pO_ rfl (by rfl) fun K hK => ?_
      go_simp
      have hB4 : Below wq.heap.size wq (wq.alloc _).drew := ((Below.refl _ wq).alloc (Nat.le_refl _) (.cells zeroP 36)).drew
      refine hK.out _ _ hB4 ?_
      clear hK K
      try simp only [aP, lsA, lsB, lsC, lsD, lsE, lsF]
      refine pO_ rfl (by rfl) fun K hK => ?_
      go_simp
      go_at_call 30
      refine (HTL.out _ (Sl.below hiq hB4)).mono ?_
      rintro e w5 ⟨A5, c5, rfl, hi5, hb5⟩
      have hB5 : Below wq.heap.size wq w5 := bG_ hB4 hb5
      have h45 := (show BoxAt (wq.alloc (.cells zeroP 36)).drew wq.heap.size zeroP from BoxAt.new wq zeroP).below hb5 (by simp)
      refine hK.out _ _ hB5 ?_
      clear hK K
      try simp only [aP, lsA, lsB, lsC, lsD, lsE, lsF]
      iterate 4
        refine pT_ (v := ?_) rfl (by rfl) (fun w' hw' => ?_) ?_
        rotate_left
        · go_simp; try with_reducible rfl
        try simp only [aP, lsA, lsB, lsC, lsD, lsE, lsF]
      refine pO_ rfl (by rfl) fun K hK => ?_
      refine oSB rfl (by first | rfl | simp [aE, aP]) (by first | rfl | simp [aE, aP]) h45 rfl rfl (portA_one _ A5 c5) ?_
      intro w6 h6 hr6
      have hB6 : Below wq.heap.size wq w6 := hB5.trans (hr6.below (Nat.le_refl _))
      have hi6 : InP w6 (r).1 A5 := ((inP_off hi5 h45 HQG.out).same fun b _ hn => hr6.block b hn).1
      have HTD := hd_ (Told.mk (r := r) (w1 := wq) h6 hi6 hB6 (Nat.le_refl _))
      refine hK.out _ _ hB6 ?_
      clear hK K h6 hi6 hr6 hi5 hb5
      try simp only [aP, lsA, lsB, lsC, lsD, lsE, lsF]
      iterate 2
        refine pT_ (v := ?_) rfl (by rfl) (fun w' hw' => ?_) ?_
        rotate_left
        · go_simp; try with_reducible rfl
        try simp only [aP, lsA, lsB, lsC, lsD, lsE, lsF]
      refine pD_ (NoPanic.normal ?_)
      go_wp2_with fail
      go_meet
      exact HTD.out
  obtain ⟨k, A5, c5, rfl, rfl, rfl, h5, hi5, hB5, hk5⟩ := hcut
  obtain ⟨w8, rfl⟩ : ∃ w8 : World, w8 = wc := ⟨_, rfl⟩
  have hdc := DkBox.below hdq hB5 hgq
  have hRc := HR.out.below hB5 (RpAt.lt HR.out)
  have hBc := bG_ hW hB5
  have hic : InP w8 p A := Sl.below hiq hB5
  have hBc1 := Sl.below hBq hB5
  have HR2 := hd_ hRc
  have c0 := hRc.cell0
  have c1 := hRc.cell1
  have f0 := hRc.frozen 0
  have f1 := hRc.frozen 1
  clear hdq hiq hBq hOq HR hW hB5 HTL hgl hoq hgq hRc
  obtain ⟨q, m, e⟩ := r
  dsimp only at *
  by_cases he : e = 0
  · subst he
    obtain ⟨hm, hql⟩ := HTO.out rfl
    have hpl := plan_len HQG.out
    have HNV2 := hd_ (show NV = (thP q).getD p.ships.length (-1) by rw [<- HNV.out, if_neg (by simp), hm, Int.toNat_natCast])
    rw [hql] at hpl
    have HMP2 := hd_ (fun w h1 h2 h3 => HMP.out A5 c5 w h1 h2 h3)
    obtain ⟨z0, z1, z2, z3, z4, z5, z6, z7, z8, z9, z10, z11, z12, z13, z14, z15, hz, hzo⟩ := port_vs1 q A5 c5
    rw [hz] at HMP2 h5
    have hgc := DkBox.lt hdc
    have HPL := hd_ hpl
    have HQL := hd_ hql
    subst hm
    obtain ⟨PL, hPL⟩ : ∃ PL, (thP p).length = PL := ⟨_, rfl⟩
    rw [hPL] at hBc1 hdc HMP2
    have HPP := hd_ hPL
    clear HTO HNV hz hzo HMP hpl hql hPL
    go_wp2_with fail
    go_cut [8] (fun x8 wr => Planned q w8 x8 wr)
    case first => as_aux_lemma =>
      refine wRP (S := fun w' => Below w8.heap.size w8 w') (.take 0 (.take 1 (.take 2 (.take 3 (.take 4 (.take 5 (.take 6 (.take 7 (.take 8 (.take 9 (.take 10 (.one 11 (.take 12 (.take 13 (.take 14 (.take 15 (.take 16 (.fin)))))))))))))))))) (by kernel_rfl) (by kernel_rfl) (Below.refl _ _).drew ?_
      iterate 4
        refine pT_ (v := ?_) rfl (by rfl) (fun w' hw' => ?_) ?_
        rotate_left
        · go_simp; try with_reducible rfl
        try simp only [aP, lsA, lsB, lsC, lsD, lsE, lsF]
      refine pT_ rfl (by rfl) (fun w' hw' => exec_load_in rfl rfl (DkBox.below hdc hw' hgc)) ?_
      try simp only [aP, lsA, lsB, lsC, lsD, lsE, lsF]
      refine pT_ rfl (by rfl) (fun w' hw' => exec_load_bx rfl rfl (BoxAt.below h5 hw' (BoxAt.lt h5)) rfl) ?_
      try simp only [aP, lsA, lsB, lsC, lsD, lsE, lsF]
      iterate 4
        refine pT_ (v := ?_) rfl (by rfl) (fun w' hw' => ?_) ?_
        rotate_left
        · go_simp; try with_reducible rfl
        try simp only [aP, lsA, lsB, lsC, lsD, lsE, lsF]
      refine pT_ (v := ?_) rfl (by rfl) (fun w' hw' => ?_) ?_
      rotate_left
      · have hc16 : w'.cell? ⟨g, 16, none⟩ = some (.slice B PL cB) := (DkBox.below hdc hw' hgc).cell 16
        go_simp; try with_reducible rfl
      try simp only [aP, lsA, lsB, lsC, lsD, lsE, lsF]
      refine pO_ rfl (by rfl) fun K hK => ?_
      go_simp
      go_at_call 52
      refine (HMP2.out _ (Sl.drew hic) (Sl.drew hi5) (Sl.drew hBc1)).mono ?_
      rintro e w5 ⟨A6, c6, m6, rfl, hs6, hb6, hf6⟩
      have hB6 : Below w8.heap.size w8 w5 := bUn hb6
      have HTD := hd_ (Planned.mk (q := q) (c := c6) hs6 hB6)
      refine hK.out _ _ hB6 ?_
      clear hK K
      try simp only [aP, lsA, lsB, lsC, lsD, lsE, lsF]
      iterate 5
        refine pT_ (v := ?_) rfl (by rfl) (fun w' hw' => ?_) ?_
        rotate_left
        · go_simp; try with_reducible rfl
        try simp only [aP, lsA, lsB, lsC, lsD, lsE, lsF]
      refine pD_ (NoPanic.normal ?_)
      go_wp2_with fail
      go_meet
      exact HTD.out
    obtain ⟨A6, c6, rfl, hs6, hB6⟩ := hcut
    have hlen : (thP q).length = p.ships.length + 1 := HPL.out
    obtain ⟨b6, off6, rfl, hc6⟩ := hs6.2 (by rw [hlen]; omega)
    have hcell : wc.cell? ⟨b6, off6 + p.ships.length, none⟩ = some (.int .i64 NV) := by
      rw [hc6 p.ships.length (by rw [hlen]; omega), List.getElem?_map, HNV2.out, List.getD_eq_getElem?_getD, List.getElem?_eq_getElem (by rw [hlen]; omega)]; rfl
    have hRf := HR2.out.below hB6 (RpAt.lt HR2.out)
    have hBf := bG_ hBc hB6
    rw [hlen]
    have HRF := hd_ hRf
    have HBF := hd_ (fun a b => (hBf.setCell (p := ⟨w.heap.size + 1, 0, none⟩) (by simp) a).setCell (p := ⟨w.heap.size + 1, 1, none⟩) (by simp) b)
    have c0 := hRf.cell0
    have c1 := hRf.cell1
    have f0 := hRf.frozen 0
    have f1 := hRf.frozen 1
    have hq14 : p.ships.length + 1 <= 14 := by have := HQG.out.len; rw [HQL.out] at this; exact this
    clear hs6 hc6 hB6 hBc hRf hBf hlen HPL HQL HPP HNV2 HMP2 HR2 hic hBc1 h5 hi5 HQG hdc
    go_wp2_with fail
    refine bodyPost_ret (ans_end rfl rfl HRF.out) rfl ?_
    exact ⟨rfl, HBF.out _ _⟩
  · have HE := hd_ (show NV = 0 by rw [<- HNV.out, if_pos he])
    have n1 : (e == 0) = false := by simpa using he
    have n2 : (e != 0) = true := by simpa using he
    have HBF := hd_ (fun a b => (hBc.setCell (p := ⟨w.heap.size + 1, 0, none⟩) (by simp) a).setCell (p := ⟨w.heap.size + 1, 1, none⟩) (by simp) b)
    clear HTO HNV HMP HQG hdc hic hBc1 h5 hi5 hBc
    go_wp2_with fail
    refine bodyPost_ret (ans_end rfl rfl HR2.out) rfl ?_
    rw [HE.out]
    exact ⟨rfl, HBF.out _ _⟩
end Go.Proofs.YtifmdkcpbajdcabGreatDoor
