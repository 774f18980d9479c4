/- Laws: loads and stores of arrays of 300 integers that a drawn region does not look into. -/
import Derived.Test.YtifmdkcpbajdcabArr
import Derived.Test.YtifmdkcpbajdcabRef3
import Derived.Test.YtifmdkcpbajdcabRefP5
import Derived.Laws.OwnMore
import Derived.Deep.RegionHeld3
namespace Go.Proofs.Ytifmdkcpbajdcab
open Go.RowKit Go.Proofs Plain

/-- An operation that is not to be looked into. -/
def veilOp (o : Op) : Op := o
def veilLoad (ty : TypeId) (v : Value) : Sem Next := do pure (.value (← Instr.loadAt ty v))
def veilStore (ty : TypeId) (v x : Value) : Sem Next := do Instr.storeAt ty v x; pure .skip

theorem execOp_veilLoad (r : Operand → Value) (dst : Option Tmp) (ty : TypeId) (x : Operand) (type : TypeId) (pos : String) (after : Array Edge) (guard : Option (Nat × Bool)) :
    execOp r { dst, op := veilOp (.load ty x), type, pos, after, guard } = veilLoad ty (r x) := rfl
theorem execOp_veilStore (r : Operand → Value) (dst : Option Tmp) (ty : TypeId) (x y : Operand) (type : TypeId) (pos : String) (after : Array Edge) (guard : Option (Nat × Bool)) :
    execOp r { dst, op := veilOp (.store ty x y), type, pos, after, guard } = veilStore ty (r x) (r y) := rfl

theorem arr_info : (Try.prog.info? 61).map (·.size) = some 300 := by
  have := congrArg (Option.map Prod.fst) arr_zero
  rw [Option.map_map] at this
  exact this

theorem run_veilLoad {w : World} {g : Nat} {fs : List Int} (h : Arr w g fs) :
    (veilLoad 61 (.pointer (some ⟨g, 0, none⟩))).run Try.prog w = .ok (.value (.agg (arr fs))) w := by
  unfold veilLoad
  simp only [Instr.loadAt, Instr.sureAddr, Sem.run_bind, Sem.run_pure, Result.andThen_ok, run_loadVar_row w g 61 61 (arr fs) (0, 0) (.array 300 3) h.at_ (by kernel_rfl) rfl (by rw [arr_info, arr_size, h.len])]
theorem run_veilStore {w : World} {g : Nat} {fs gs : List Int} (h : Arr w g fs) (hl : gs.length = 300) :
    (veilStore 61 (.pointer (some ⟨g, 0, none⟩)) (.agg (arr gs))).run Try.prog w = .ok .skip (w.setRow g (arr gs)) := by
  unfold veilStore
  simp only [Instr.storeAt, Instr.sureAddr, Sem.run_bind, Sem.run_pure, Result.andThen_ok, run_storeVar_row w g 61 61 (arr fs) (arr gs) h.at_ (by rw [arr_info, arr_size, hl]) (by rw [arr_size, arr_size, h.len, hl]) (arr_one gs)]
end Go.Proofs.Ytifmdkcpbajdcab

/- Plain laws: a plan that is made ship by ship of a table. -/
namespace Go.Proofs.Ytifmdkcpbajdcab
open Plain

/-- The table is what the plan has left so far. -/
structure PT (p : Port) (r : List Nat) (k : Nat) (fs : List Int) : Prop where
  tab : Tab fs
  eq : ∀ u : Nat, u < 300 → val (planAt p r k).1 u = fs.getD u 0

theorem pt_start {p : Port} (h : PGood p) (r : List Nat) {fs : List Int} (hl : fs.length = 300) (hfs : ∀ u : Nat, u < 300 → fs.getD u 0 = freeOf p u) : PT p r 0 fs := by
  obtain ⟨g1, g2⟩ := (base_good h.toFair).2 ((base_good h.toFair).1.2 h.room)
  have he : ∀ u : Nat, u < 300 → val (baseL p).1 u = fs.getD u 0 := fun u hu => by rw [hfs u hu, g2 u (by omega) (by omega)]
  exact ⟨⟨hl, fun t ht => by rw [← he t ht]; exact val_range g1 t⟩, he⟩

theorem rank_nodup {p : Port} {r : List Nat} (hr : IsRank p r) {k : Nat} (hk : k < r.length) : r.getD k 0 ∉ r.take k := fun hm => by
  have hs := hr.sorted
  rw [← List.take_append_drop k r, List.drop_eq_getElem_cons hk] at hs
  have := (List.pairwise_append.1 hs).2.2 _ hm _ (List.mem_cons_self ..)
  rw [List.getD_eq_getElem?_getD, List.getElem?_eq_getElem hk] at this
  exact absurd this (by simp)

theorem planAt_out (p : Port) (r : List Nat) : ∀ k, k ≤ r.length → ∀ i, i ∉ r.take k → (planAt p r k).2.getD i (-1) = -1
  | 0, _, i, _ => by
    show (noneL p.ships.length).getD i (-1) = -1
    unfold noneL
    rw [List.getD_eq_getElem?_getD, List.getElem?_replicate]
    split <;> rfl
  | k + 1, hk, i, hi => by
    have hkl : k < r.length := by omega
    rw [List.take_succ_eq_append_getElem hkl, List.mem_append, List.mem_singleton] at hi
    have ih := planAt_out p r k (by omega) i (fun h => hi (.inl h))
    have hne : i ≠ r.getD k 0 := fun e => hi (.inr (by rw [e, List.getD_eq_getElem?_getD, List.getElem?_eq_getElem hkl]; rfl))
    rw [planAt]
    unfold planStep
    split
    · show ((planAt p r k).2.set _ _).getD i (-1) = -1
      simp only [List.getD_eq_getElem?_getD] at ih hne ⊢
      rw [List.getElem?_set_ne (fun e => hne e.symm)]
      exact ih
    · exact ih

theorem pt_next {p : Port} {r : List Nat} {k : Nat} {fs : List Int} (hg : PGood p) (hr : IsRank p r) (hk : k < r.length) (h : PT p r k fs) {v : Int}
    (hv : First (tabF fs) p.now (p.ship (r.getD k 0)).long (p.ship (r.getD k 0)).wide v) :
    (planAt p r (k + 1)).2 = (planAt p r k).2.set (r.getD k 0) v ∧
    ((v = -1 ∧ PT p r (k + 1) fs) ∨ (0 ≤ v ∧ v + (p.ship (r.getD k 0)).long ≤ 300 ∧ lessOk fs v (v + (p.ship (r.getD k 0)).long) (p.ship (r.getD k 0)).wide = true ∧ PT p r (k + 1) (lessL fs v (v + (p.ship (r.getD k 0)).long) (p.ship (r.getD k 0)).wide))) := by
  obtain ⟨i0, i1⟩ := rank_get hr hk
  have hout := planAt_out p r k (by omega) _ (rank_nodup hr hk)
  have hG := planAt_good hg r k
  have hst : planAt p r (k + 1) = planStep p (planAt p r k) (r.getD k 0) := rfl
  obtain ⟨hs, _⟩ := hg.ship _ i0
  have hw := hs.wide
  have hlo := hs.long
  have hn := hg.now
  have hmx : max 0 p.now = p.now := by omega
  have hf := fitL_first (fr := max 0 p.now) (n := (p.ship (r.getD k 0)).wide) hG (by omega) hlo.1 hlo.2 (by omega)
  have hev : fitL (planAt p r k).1 (max 0 p.now) (p.ship (r.getD k 0)).long (p.ship (r.getD k 0)).wide = v := by
    rw [hmx] at hf ⊢
    refine First.unique hn.1 (fun u u0 u1 => ?_) hf hv
    have := h.eq u.toNat (by omega)
    rwa [show ((u.toNat : Nat) : Int) = u by omega] at this
  rcases First.none_or hn.1 hv with e | ⟨e1, e2, e3⟩
  · subst e
    have := planStep_no (p := p) (s := planAt p r k) (i := r.getD k 0) (by omega)
    rw [this] at hst
    refine ⟨?_, .inl ⟨rfl, h.tab, fun u hu => by rw [hst]; exact h.eq u hu⟩⟩
    rw [hst, set_same _ _ hout]
  · have := planStep_yes (p := p) (s := planAt p r k) (i := r.getD k 0) hev e2
    rw [this] at hst
    have hfit := e3.2
    have hok : lessOk fs v (v + (p.ship (r.getD k 0)).long) (p.ship (r.getD k 0)).wide = true := (lessOk_iff fs _ _ _ e3.1).2 fun t t1 t2 => by
      have a := hfit t t1 t2
      have b := h.tab.2 t (by have := e3.1; omega)
      unfold tabF at a
      rw [Int.toNat_natCast] at a
      omega
    have hTA : takeL (planAt p r k).1 v (v + (p.ship (r.getD k 0)).long) (p.ship (r.getD k 0)).wide = addL (planAt p r k).1 v (v + (p.ship (r.getD k 0)).long) (-(p.ship (r.getD k 0)).wide) := by
      unfold takeL; rw [if_pos ⟨by omega, hw.2⟩]
    obtain ⟨b1, b2⟩ := add_less (n := (p.ship (r.getD k 0)).wide) hG h.eq e2 (show v ≤ v + (p.ship (r.getD k 0)).long by omega) e3.1
    obtain ⟨c1, c2⟩ := b2 (b1.trans hok)
    refine ⟨by rw [hst], .inr ⟨e2, e3.1, hok, ⟨lessL_len _ _ _ _, fun t ht => ?_⟩, fun u hu => ?_⟩⟩
    · rw [← c2 t ht]; exact val_range c1 t
    · rw [hst]
      show val (takeL _ _ _ _).1 u = _
      rw [hTA]; exact c2 u hu

theorem pt_all {p : Port} {r : List Nat} (hg : PGood p) (hr : IsRank p r) : (planAt p r r.length).2 = thePlan p := by
  rw [planAt_all ((base_good hg.toFair).1.2 hg.room), planL_the hg hr]
end Go.Proofs.Ytifmdkcpbajdcab

/- Walks: the document's answers: a plan. -/
namespace Go.Proofs.Ytifmdkcpbajdcab
open Go.RowKit Go.Proofs Plain

theorem natsI_at {r : List Nat} {k : Nat} (h : k < r.length) : (natsI r).getD k 0 = ((r.getD k 0 : Nat) : Int) := natsI_get r k h

theorem OwnI.cell {w : World} {base g c : Nat} {l : List Int} (h : OwnI w base (.slice (some ⟨g, 0, none⟩) l.length c) l) (j : Nat) (hj : j < l.length) : w.cell? ⟨g, j, none⟩ = some (.int .i64 (l.getD j 0)) := by
  rw [World.ownsRow.cellAt h j (by omega), List.getElem?_map, List.getElem?_eq_getElem hj, List.getD_eq_getElem?_getD, List.getElem?_eq_getElem hj]; rfl
theorem OwnI.frozen {w : World} {base g c : Nat} {l : List Int} (h : OwnI w base (.slice (some ⟨g, 0, none⟩) l.length c) l) (j : Nat) : w.frozen? ⟨g, j, none⟩ = false := World.ownsRow.frozenAt h j
theorem OwnI.set {w : World} {base g c : Nat} {l : List Int} (h : OwnI w base (.slice (some ⟨g, 0, none⟩) l.length c) l) (j : Nat) (v : Int) : OwnI (w.setCell ⟨g, j, none⟩ (.int .i64 v)) base (.slice (some ⟨g, 0, none⟩) (l.set j v).length c) (l.set j v) := by
  have := (World.ownsRow.stored h j (.int .i64 v)).1
  unfold OwnI
  rw [List.length_set, List.map_set]; exact this
theorem OwnI.row {w w' : World} {base k c : Nat} {L : Option Addr} {l : List Int} (h : OwnI w base (.slice L l.length c) l) (hr : OneRow k w w') (hk : ∀ x, L = some x → x.block < k) : OwnI w' base (.slice L l.length c) l := by
  refine ⟨h.1, ?_⟩
  rcases h.2 with hn | ⟨b, cap, cur, hv, hb, hh, rest⟩
  · exact .inl hn
  · refine .inr ⟨b, cap, cur, hv, hb, (hr.block b (fun e => ?_)).trans hh, rest⟩
    injection hv with e1
    have := hk _ e1
    simp only at this
    omega

theorem sl_one {w w' : World} {size n g : Nat} {A : Option Addr} {xs : List Value} (h : Sl w size A n xs) (hr : OneRow g w w') (hA : Fr (g + 1) A) : Sl w' size A n xs :=
  ⟨h.1, fun hn => by
    obtain ⟨b, off, e, hc⟩ := h.2 hn
    have hb := hA _ e
    exact ⟨b, off, e, fun i hi => (hr.cell b (off + i) (by simp only at hb ⊢; omega)).trans (hc i hi)⟩⟩

theorem none_next (k : Nat) : noneL k ++ [-1] = noneL (k + 1) := by
  unfold noneL; rw [List.replicate_succ']

/-- What stands while a plan is made. -/
structure QS (w wr : World) (p : Port) (A : Option Addr) (c : Nat) (L : Option Addr) (cO gB : Nat) (A3 : Option Addr) (r : List Nat) (out fs : List Int) : Prop where
  port : PortAt wr w.heap.size p A c
  tab : Arr wr gB fs
  out : OwnI wr (w.heap.size + 1) (.slice L out.length cO) out
  rank : Sl wr 1 A3 r.length ((natsI r).map (Value.int .i64))
  below : Below w.heap.size w wr
  lo : w.heap.size < gB
  lt : ∀ x, L = some x → x.block < gB
  fr : Fr (gB + 1) A3

section
variable {w wr w' : World} {p : Port} {A : Option Addr} {c cO gB : Nat} {L A3 : Option Addr} {r : List Nat} {out fs : List Int}
theorem QS.alloc (h : QS w wr p A c L cO gB A3 r out fs) (o : Obj) : QS w (wr.alloc o) p A c L cO gB A3 r out fs :=
  ⟨h.port.alloc o, h.tab.alloc o, h.out.alloc o, h.rank.alloc o, h.below.alloc h.below.size o, h.lo, h.lt, h.fr⟩
theorem QS.go (h : QS w wr p A c L cO gB A3 r out fs) (hb : Below wr.heap.size wr w') : QS w w' p A c L cO gB A3 r out fs :=
  ⟨h.port.below hb h.port.lt, h.tab.below hb h.tab.lt, h.out.below hb, h.rank.below hb, below_go h.below hb, h.lo, h.lt, h.fr⟩
theorem QS.drewN (h : QS w wr p A c L cO gB A3 r out fs) (n : Nat) : QS w (wr.drewN n) p A c L cO gB A3 r out fs :=
  ⟨h.port, h.tab.drewN n, h.out, Sl.drewN h.rank n, below_drewN h.below n, h.lo, h.lt, h.fr⟩
theorem QS.set {g : Nat} (h : QS w wr p A c (some ⟨g, 0, none⟩) cO gB A3 r out fs) (j : Nat) (v : Int) : QS w (wr.setCell ⟨g, j, none⟩ (.int .i64 v)) p A c (some ⟨g, 0, none⟩) cO gB A3 r (out.set j v) fs := by
  have h1 := h.lo
  have h2 := h.lt _ rfl
  simp only at h2
  have h3 : w.heap.size + 1 ≤ g := own_block h.out g rfl
  exact ⟨h.port.beside _ _ (by simp; omega), h.tab.beside _ _ (by simp; omega), h.out.set j v, h.rank.beside (h.fr.mono (by omega)) _, h.below.setCell (by simp; omega) _, h1, h.lt, h.fr⟩
theorem QS.row (h : QS w wr p A c L cO gB A3 r out fs) {gs : List Int} (hr : OneRow gB wr w') (ha : Arr w' gB gs) : QS w w' p A c L cO gB A3 r out gs := by
  have h1 := h.lo
  exact ⟨h.port.below (hr.below (n := gB) (Nat.le_refl _)) h1, ha, h.out.row hr h.lt, sl_one h.rank hr h.fr, h.below.trans (hr.below (by omega)), h1, h.lt, h.fr⟩
end

attribute [local go_sem ↓] execOp_veilLoad execOp_veilStore

set_option maxRecDepth 100000 in
set_option maxHeartbeats 40000000 in
theorem planOf_any (p : Port) (A : Option Addr) (c : Nat) (w : World) (hg : PGood p) (r : List Nat) (hrk : IsRank p r) (hrl : r.length ≤ p.ships.length) (hin : InP w p A) :
    Calls Try.prog 17 #[.agg (portA p A c)] w (RetInts (thePlan p) w) := by
  have hlen := hg.len
  have hn := hg.now
  have HG := Lib.hid hg
  have HRK := Lib.hid hrk
  clear hg hrk
  have hP0 : PortAt (w.alloc (.cells (portA p A c) 27)) w.heap.size p A c := PortAt.new w p A c
  have hB0 : Below w.heap.size w (w.alloc (.cells (portA p A c) 27)) := (Below.refl _ _).alloc (Nat.le_refl _) _
  have q1 := hP0.ships
  simp only [portA] at hP0 hB0 q1 ⊢
  go_enter Try.func17, Try.ntmps17
  go_wp2_with fail
  go_loopw [3, 12] (fun x3 i wr => ∃ (t : Nat) (L : Option Addr) (cL : Nat), t ≤ p.ships.length ∧ i = .int .i64 t ∧ x3 = .slice L (noneL t).length cL ∧ OwnI wr (w.heap.size + 1) (.slice L (noneL t).length cL) (noneL t) ∧ PortAt wr w.heap.size p A c ∧ Below w.heap.size w wr) (fun _ i _ => p.ships.length - (intOf i).toNat)
  case atStart => exact ⟨0, none, 0, Nat.zero_le _, rfl, rfl, OwnI.nil _ _, hP0, hB0⟩
  case round =>
    clear hP0 hB0 q1
    obtain ⟨t, L, cL, ht, rfl, rfl, hO, hP, hB⟩ := hrel
    have hnl : (noneL t).length = t := List.length_replicate
    by_cases hlt : t < p.ships.length
    · have HN := Lib.hid (none_next t)
      have ho2 := hO.alloc (.cells #[.int .i64 (-1)] 3)
      have hh := heap_alloc_new wr (.cells #[.int .i64 (-1)] 3)
      have q3 := hP.lt
      go_wp2_with (at_builtin; refine wpList_append_int rfl _ _ rfl (w.heap.size + 1) _ _ rfl ho2 wr.heap.size 1 (-1) rfl hh (by rw [hnl]; omega) (by simp <;> omega) ?_; intro v' w' ho' hg')
      have hP4 := (hP.alloc (.cells #[.int .i64 (-1)] 3)).grown hg' (own_ne ho2 (by omega))
      have hB4 := grown_below (hB.alloc hB.size (.cells #[.int .i64 (-1)] 3)) hg' ho2 (by omega) (by simp; have := hB.size; omega)
      rw [HN.out] at ho'
      obtain ⟨L', c', rfl⟩ := own_form ho'
      go_roundw
      case rel => exact ⟨t + 1, L', c', by omega, by go_num, rfl, ho', hP4, hB4⟩
      case measure => simp [intOf] <;> omega
    · obtain rfl : t = p.ships.length := by omega
      have HPT := Lib.hid (fun fs => @pt_start p HG.out r fs)
      have HNX := Lib.hid (fun k fs => @pt_next p r k fs HG.out HRK.out)
      have HALL := Lib.hid (pt_all HG.out HRK.out)
      have q3 := hP.lt
      rw [hnl]
      go_wp2_with (first
        | (refine wpList_load_port rfl rfl (by first | rfl | simp [Act.eval, Act.put]) hP ?_)
        | (go_at_call 37; refine (baseOf_any p A c _ HG.out.toFair (Sl.below hin hB)).mono ?_; rintro e w2 ⟨fs, hfl, hfs, rfl, hb2⟩; have hP2 := hP.below hb2 hP.lt; have hO2 := hO.below hb2; have hB2 := below_go hB hb2; have hz2 := hb2.size)
        | (refine wpList_alloc_arr rfl rfl ?_; intro w3 gB b1 b2 hA3 hb3; have hP3 := hP2.below hb3 hP2.lt; have hO3 := hO2.below hb3; have hB3 := below_go hB2 hb3)
        | (refine wpList_store_arr rfl rfl (by first | rfl | simp [Act.eval, Act.put]) (by first | rfl | simp [Act.eval, Act.put]) hA3 hfl ?_; intro w4 hA4 hr4; have hP4 := PortAt.below hP3 (hr4.below (n := gB) (Nat.le_refl _)) (by omega))
        | (refine wpList_load_port rfl rfl (by first | rfl | simp [Act.eval, Act.put]) hP4 ?_)
        | (go_at_call 19; refine (rankedOf_any p A c _ HG.out.toFair r HRK.out hrl (Sl.below hin (hB3.trans (hr4.below (by omega))))).mono ?_; rintro e w5 ⟨A3, c3, rfl, h3, hb5, hr5⟩))
      have hB4 := hB3.trans (hr4.below (n := w.heap.size) (by omega))
      have hO4 := hO3.row hr4 (fun x hx => by have := World.ownsRow.lt hO x.block (by rw [hx]; rfl); omega)
      have hS : QS w w5 p A c L cL gB A3 r (noneL p.ships.length) fs := ⟨PortAt.below hP4 hb5 (PortAt.lt hP4), hA4.below hb5 hA4.lt, hO4.below hb5, by rw [natsI_len] at h3; exact h3, below_go hB4 hb5, by omega, fun x hx => by have := World.ownsRow.lt hO x.block (by rw [hx]; rfl); omega, hr5.mono hA4.lt⟩
      rw [natsI_len]
      have hPT := HPT.out fs hfl hfs
      clear hO hP hB hP2 hO2 hB2 hb2 hA3 hb3 hP3 hO3 hB3 b1 b2 hA4 hr4 hP4 hB4 hO4 h3 hb5 hr5 hfs HPT q3
      go_wp2_with fail
      go_loopw [26] (fun i wr => ∃ (k : Nat) (fs : List Int), k ≤ r.length ∧ i = .int .i64 k ∧ PT p r k fs ∧ QS w wr p A c L cL gB A3 r (planAt p r k).2 fs) (fun i _ => r.length - (intOf i).toNat)
      case atStart => exact ⟨0, fs, Nat.zero_le _, rfl, hPT, hS⟩
      case round =>
        clear hS hPT
        obtain ⟨k, fs, hk, rfl, hPT, hS⟩ := hrel
        have hol := planAt_len p r k
        by_cases hlt : k < r.length
        · obtain ⟨b3, off3, hA3, hbl3, hc3⟩ := ints_at (l := natsI r) (by rw [natsI_len]; exact hS.rank) (by rw [natsI_len]; omega)
          subst hA3
          have e3 := hc3 k (by rw [natsI_len]; exact hlt)
          rw [natsI_get _ _ hlt] at e3
          clear hc3
          obtain ⟨i0, i1⟩ := rank_get HRK.out hlt
          have HN := Lib.hid (fun v h => HNX.out k fs hlt hPT (v := v) h)
          have hso := (HG.out.ship _ i0).1
          have hw := hso.wide
          have hlg := hso.long
          clear hso
          have HTB := Lib.hid hPT.tab
          obtain ⟨gO, hL, _, _⟩ := ints_own hS.out (by omega)
          subst hL
          obtain ⟨bs, offs, hA, hbl, hcells⟩ := ships_at (Sl.below hin hS.below) (by omega)
          subst hA
          obtain ⟨R, hR⟩ : ∃ R, (planAt p r k).2 = R := ⟨_, rfl⟩
          obtain ⟨j, hj⟩ : ∃ j, r.getD k 0 = j := ⟨_, rfl⟩
          rw [hR] at hS hol HN
          rw [hj] at e3 i0 i1 HN hw hlg
          clear hR hj hPT
          obtain ⟨d1, d2, d3, d4, d5, d6⟩ := hcells j i0
          clear hcells
          change wr.cell? _ = some (.int .i64 (p.ship j).state) at d1
          change wr.cell? _ = some (.int .i64 (p.ship j).wide) at d2
          change wr.cell? _ = some (.int .i64 (p.ship j).long) at d3
          change wr.cell? _ = some (.int .i64 (p.ship j).cls) at d4
          change wr.cell? _ = some (.int .i64 (p.ship j).since) at d5
          change wr.cell? _ = some (.int .i64 (p.ship j).queued) at d6
          generalize p.ship j = x at *
          obtain ⟨sst, wd, lg, cl, si, qu⟩ := x
          dsimp only at *
          clear i1
          have q0 := hS.port.now
          have q1 := hS.port.ships
          have q3 := hS.port.lt
          have q4 := hS.tab.lt
          have q5 : gO < wr.heap.size := (World.ownsRow.lt hS.out gO rfl).2
          have hS1 := hS.alloc (.cells (shipV ⟨sst, wd, lg, cl, si, qu⟩) 38)
          have HS1 := Lib.hid hS1
          have hA1 := hS1.tab
          simp only [shipV] at hA1 HS1
          clear hS1
          go_wp2_with (refine wpList_load_arr rfl rfl (by first | rfl | simp [Act.eval, Act.put]) hA1 ?_)
          refine (first_any fs p.now lg wd _ HTB.out.1 (by omega) (by omega) (by omega) (by omega)).mono ?_
          rintro e w6 ⟨v, hv, rfl, hb6⟩
          have HN2 := Lib.hid (HN.out v hv)
          clear HN hv
          have hS6 := HS1.out.go hb6
          have hc6 := hS6.out.cell j (by omega)
          have hf6 := hS6.out.frozen j
          have hx6 := ship_kept (g := gO) (j := j) (t := v) (s := ⟨sst, wd, lg, cl, si, qu⟩) q5 hb6
          have hx61 := hx6 1 (by omega)
          have hx62 := hx6 2 (by omega)
          simp only [shipV] at hx61 hx62
          have hy6 := hS6.set j v
          have HY := Lib.hid hy6
          have hz6 := hb6.size
          simp only [World.size_alloc] at hz6
          have hd6 : (w6.setCell ⟨gO, j, none⟩ (.int .i64 v)).cell? ⟨gO, j, none⟩ = some (.int .i64 v) := by
            have := hy6.out.cell j (by rw [List.length_set]; omega)
            rw [List.getD_eq_getElem?_getD, List.getElem?_set_self (by omega)] at this; exact this
          clear hx6 hy6 HS1 hA1
          rcases HN2.out.2 with ⟨hv, hPT⟩ | ⟨v0, v300, hok, hPT⟩
          · have HPT := Lib.hid hPT
            have HQ := Lib.hid HN2.out.1
            clear hPT HN2
            subst hv
            go_wp2_with fail
            go_roundw
            case rel => exact ⟨k + 1, fs, by omega, by go_num, HPT.out, by rw [HQ.out]; exact HY.out⟩
            case measure => simp [intOf] <;> omega
          · have HPT := Lib.hid hPT
            have HQ := Lib.hid HN2.out.1
            have HOK := Lib.hid hok
            clear hPT HN2 hok
            have t0 : decide (v ≥ 0) = true := by simpa using v0
            go_wp2_with fail
            have hAY := HY.out.tab
            have hAd : Arr (w6.setCell ⟨gO, j, none⟩ (.int .i64 v)).drew gB fs := ⟨hAY.len, hAY.at_⟩
            have hld := run_veilLoad hAd
            have hzY : (w6.setCell ⟨gO, j, none⟩ (.int .i64 v)).heap.size = w6.heap.size := by simp
            have hbx : gO ≠ gB := by have := HY.out.lt _ rfl; simp only at this; omega
            have hby : wr.heap.size ≠ gB := by omega
            have HLL := Lib.hid (lessL_len fs v (v + lg) wd)
            have hwr : IntKind.i64.wrap (v + lg) = v + lg := IntWalk.i64_in _ (by omega)
            have hgl : gO < w6.heap.size := by omega
            rw [show Op.load 61 (Operand.tmp 4) = veilOp (Op.load 61 (Operand.tmp 4)) from rfl,
              show Op.store 61 (Operand.tmp 4) (Operand.tmp 67) = veilOp (Op.store 61 (Operand.tmp 4) (Operand.tmp 67)) from rfl]
            go_region_held3 (fun w' => w'.cell? ⟨gO, j, none⟩ = some (.int .i64 v) ∧ w'.cell? ⟨wr.heap.size, 1, none⟩ = some (.int .i64 wd) ∧ w'.cell? ⟨wr.heap.size, 2, none⟩ = some (.int .i64 lg))
              (first
                | (exact ⟨(hset _ _ hbx).trans hk1, (hset _ _ hby).trans hk2, (hset _ _ hby).trans hk3⟩)
                | (exact ⟨hk1, hk2, hk3⟩)
                | (exact ⟨hd6, hx61, hx62⟩))
              (first
                | (go_at_call 46; refine (less_any fs v (v + lg) wd _ HTB.out (by omega) (by omega) (by omega) (by omega) (by omega)).mono ?_; rintro e w7 ⟨rfl, hb7⟩; rw [if_pos HOK.out, HOK.out]; have hb7' := below_undrew hb7; have hA7 := hAY.below hb7' (by rw [hzY]; omega); have hst := run_veilStore hA7 HLL.out; have hset := fun b o hne => (OneRow.of_row w7 gB (arr (lessL fs v (v + lg) wd))).cell b o hne; have hk1 := (hb7'.cell (p := ⟨gO, j, none⟩) (by simp; omega)).trans hd6; have hk2 := (hb7'.cell (p := ⟨wr.heap.size, 1, none⟩) (by simp; omega)).trans hx61; have hk3 := (hb7'.cell (p := ⟨wr.heap.size, 2, none⟩) (by simp; omega)).trans hx62))
            all_goals
              have HF := Lib.hid ((HY.out.go hb7').row (OneRow.of_row w7 gB (arr (lessL fs v (v + lg) wd))) (hA7.row _ HLL.out))
              clear hst hset hk1 hk2 hk3 hb7 hb7' hA7
              go_wp2_with fail
              go_roundw
              case rel => exact ⟨k + 1, lessL fs v (v + lg) wd, by omega, by go_num, HPT.out, by rw [HQ.out]; exact HF.out⟩
              case measure => simp [intOf] <;> omega
        · obtain rfl : k = r.length := by omega
          have HE := Lib.hid (show p.ships.length = (thePlan p).length by rw [← hol, HALL.out])
          rw [HALL.out] at hS
          have HS := Lib.hid hS
          go_wp2_with fail
          go_ret
          refine ⟨L, cL, ret_sl HE.out, Sl.of_own HS.out.out, HS.out.below, (fr_own HS.out.out).mono (by omega)⟩
end Go.Proofs.Ytifmdkcpbajdcab
