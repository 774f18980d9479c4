/- Walks: what port answers of every port, and, of good ones, what Base, Ranked and Plan answer, is what the document says. -/
import Derived.Test.YtifmdkcpbajdcaaPlanB
import Derived.Test.YtifmdkcpbajdcaaRefP2
import Derived.Test.YtifmdkcpbajdcaaRefP6
import Derived.Test.YtifmdkcpbajdcaaRefP7
import Derived.Test.YtifmdkcpbajdcaaBox
import Derived.Test.YtifmdkcpbajdcaaWalks
import Derived.Test.YtifmdkcpbajdcaaPortsLaw
import Derived.Test.YtifmdkcpbajdcaaSpanL1
import Derived.Test.YtifmdkcpbajdcaaRef4
namespace Go.Proofs.Ytifmdkcpbajdcaa
open Go.RowKit Go.Proofs Plain

attribute [local go_sem ↓] execOp_veilLoad execOp_veilStore

/-- The block g holds these values: a ship's variable. -/
def ShipAt (w : World) (g : Nat) (vs : Array Value) : Prop := w.heap[g]? = some (.cells vs 48 (0, 0))
theorem ShipAt.lt {w : World} {g : Nat} {vs : Array Value} (h : ShipAt w g vs) : g < w.heap.size := (Array.getElem?_eq_some_iff.1 h).1
theorem ShipAt.below {w w' : World} {g n : Nat} {vs : Array Value} (h : ShipAt w g vs) (hb : Below n w w') (hn : g < n) : ShipAt w' g vs := (hb.block g hn).trans h
theorem ShipAt.cell {w : World} {g : Nat} {vs : Array Value} (h : ShipAt w g vs) (j : Nat) : w.cell? ⟨g, j, none⟩ = vs[j]? := by rw [cell_of_row w g j _ _ _ h]
theorem ShipAt.all {w : World} {g : Nat} {v0 v1 v2 v3 v4 v5 : Value} (h : ShipAt w g #[v0, v1, v2, v3, v4, v5]) : w.cell? ⟨g, 0, none⟩ = some v0 ∧ w.cell? ⟨g, 1, none⟩ = some v1 ∧ w.cell? ⟨g, 2, none⟩ = some v2 ∧ w.cell? ⟨g, 3, none⟩ = some v3 ∧ w.cell? ⟨g, 4, none⟩ = some v4 ∧ w.cell? ⟨g, 5, none⟩ = some v5 :=
  ⟨h.cell 0, h.cell 1, h.cell 2, h.cell 3, h.cell 4, h.cell 5⟩

/-- What stands while the law asks. -/
structure TS (w wr : World) (p : Port) (A B : Option Addr) (vs us ss : Array Value) (g3 g4 g7 : Nat) : Prop where
  b3 : BoxAt wr g3 vs
  b7 : BoxAt wr g7 us
  s4 : ShipAt wr g4 ss
  inA : InP wr p A
  inB : InP wr p B
  below : Below w.heap.size w wr
section
variable {w wr w' : World} {p : Port} {A B : Option Addr} {vs us ss : Array Value} {g3 g4 g7 : Nat}
theorem TS.go (h : TS w wr p A B vs us ss g3 g4 g7) (hb : Below wr.heap.size wr w') : TS w w' p A B vs us ss g3 g4 g7 :=
  ⟨h.b3.below hb h.b3.lt, h.b7.below hb h.b7.lt, h.s4.below hb h.s4.lt, Sl.below h.inA hb, Sl.below h.inB hb, below_go h.below hb⟩
theorem TS.drew (h : TS w wr p A B vs us ss g3 g4 g7) : TS w wr.drew p A B vs us ss g3 g4 g7 := ⟨h.b3, h.b7, h.s4, h.inA, h.inB, ⟨h.below.os, h.below.tape, h.below.output, h.below.size, h.below.block⟩⟩
theorem TS.row {w0 : World} {g : Nat} (h : TS w wr p A B vs us ss g3 g4 g7) (hr : OneRow g wr w') (hg : w0.heap.size ≤ g) (h0 : TS w w0 p A B vs us ss g3 g4 g7) (hb : Below w0.heap.size w0 wr) : TS w w' p A B vs us ss g3 g4 g7 :=
  h0.go (hb.trans (hr.below hg))
theorem TS.alloc (h : TS w wr p A B vs us ss g3 g4 g7) (o : Obj) : TS w (wr.alloc o) p A B vs us ss g3 g4 g7 :=
  h.go ((Below.refl _ _).alloc (Nat.le_refl _) o)
end

theorem own_sl {w : World} {base c : Nat} {A : Option Addr} {p : Port} (h : OwnK w base (.slice A p.ships.length c) p.ships) : InP w p A := Sl.of_own h

theorem steps_of (fs : List Int) (w : World) (hl : fs.length = 300) {T : Prof} (hT : stepsTo fs 300 = T) :
    Calls Try.prog 24 #[.agg (arr fs)] w (RetSteps T w) := by subst hT; exact steps_any fs w hl

theorem exec_load_box {o : Oper} {a : Act} {w : World} {x : Operand} {g : Nat} {vs : Array Value} (ho : o.op = .load 46 x) (hx : a.eval x = .pointer (some ⟨g, 0, none⟩)) (hf : BoxAt w g vs) (hs : vs.size = 16) :
    (execOp a.eval o).run Try.prog w = .ok (.value (.agg vs)) w := by
  unfold execOp
  simp only [ho, hx, Instr.loadAt, Instr.sureAddr, Sem.run_bind, Sem.run_pure, Result.andThen_ok, run_loadVar_row w g 46 46 vs (0, 0) _ hf Try.underlying46 rfl (by rw [hs]; exact port_size)]
theorem exec_load_arr {o : Oper} {a : Act} {w : World} {x : Operand} {g : Nat} {fs : List Int} (ho : o.op = .load 25 x) (hx : a.eval x = .pointer (some ⟨g, 0, none⟩)) (h : Arr w g fs) :
    (execOp a.eval o).run Try.prog w = .ok (.value (.agg (arr fs))) w := by
  unfold execOp
  simp only [ho, hx, Instr.loadAt, Instr.sureAddr, Sem.run_bind, Sem.run_pure, Result.andThen_ok, run_loadVar_row w g 25 25 (arr fs) (0, 0) (.array 300 3) h.at_ (by kernel_rfl) rfl (by rw [arr_info, arr_size, h.len])]

/-- The first question. -/
def Ask1 (w wq : World) (p : Port) (A B : Option Addr) (vs us ss : Array Value) (g3 g4 g7 : Nat) (x : Value) : Prop := x = .bool false ∧ TS w wq p A B vs us ss g3 g4 g7

set_option maxRecDepth 100000 in
set_option maxHeartbeats 40000000 in
theorem portTells_walk (p : Port) (A : Option Addr) (c : Nat) (s : Ship) (now : Int) (w : World) (hp : PWf p) (hs : ShipWf s) (hn : i64 now) (hin : InP w p A) (hcap : p.ships.length ≤ c) (hre : p.ships.length * 48 ≤ 140737488355328) :
    Calls Try.prog 8 #[.agg (portA p A c), .agg (shipV s), .int .i64 now] w fun e w' => e = .returned (.bool true) ∧ Below w.heap.size w w' := by
  have HCP := Lib.hid (fun w h => copyP_any p A c w h hp.len hre)
  have HGD := Lib.hid (fun B d w h => good_port p B d w hp h)
  have hIP := fun w h => isPort_any p A c w hp hcap h
  have hGS := fun w => goodShip_any s now w hs hn
  have hIS := fun w => isShip_any s now w hn
  have HNP := Lib.hid (fun w => newPort_any w)
  have HSP := Lib.hid (fun w => samePort_any Port.zero none none 0 0 w (Sl.zero _ _ _) (Sl.zero _ _ _) (by simp [Port.zero]))
  have HPO := Lib.hid (fun w => ports_law w)
  have hG := fun (h : goodP p = true) => (goodP_iff hp.four).1 h
  have HB := Lib.hid (fun (h : goodP p = true) B d w hi => base_fr p B d w (hG h).toFair hi)
  have hBT := fun (h : goodP p = true) => (base_good (hG h).toFair).1.2 (hG h).room
  have HBT := Lib.hid hBT
  have hBO := fun (h : goodP p = true) w hi => baseOf_any p A c w (hG h).toFair hi
  have HRK := Lib.hid (fun (h : goodP p = true) B d w hi => ranked_any p B d w (hG h) hi)
  have hRO := fun (h : goodP p = true) w hi => rankedOf_any p A c w (hG h).toFair (rankL p) (rankL_is (hG h)) (rank_len p) hi
  have HPL := Lib.hid (fun (h : goodP p = true) B d w hi => plan_any p B d w (hG h) hi)
  have hPO := fun (h : goodP p = true) w hi => planOf_any p A c w (hG h) (rankL p) (rankL_is (hG h)) (rank_len p) hi
  have hSM := fun B d w (h1 : InP w p B) (h2 : InP w p A) (hl : p.ships.length ≤ 100000) => samePort_any p B A d c w h1 h2 hl
  have HST := Lib.hid (fun (h : goodP p = true) (fs : List Int) (hl : fs.length = 300) (hfs : ∀ u : Nat, u < 300 → fs.getD u 0 = freeOf p u) => show stepsTo fs 300 = (baseL p).1 from
    steps_eq ((base_good (hG h).toFair).2 (hBT h)).1 (fun u hu => by rw [hfs u hu]; exact ((base_good (hG h).toFair).2 (hBT h)).2 u (by omega) (by omega)))
  have HLE := Lib.hid (fun (h : goodP p = true) => (hG h).len)
  have HPN := Lib.hid (fun (h : goodP p = true) => plan_len (hG h))
  have HML := Lib.hid (fun (h : goodP p = true) => good_max ((base_good (hG h).toFair).2 (hBT h)).1)
  obtain ⟨s1, s2, s3, s4, s5, s6⟩ := s
  obtain ⟨SB, hSB⟩ : ∃ SB, shipB ⟨s1, s2, s3, s4, s5, s6⟩ now = SB := ⟨_, rfl⟩
  obtain ⟨v0, v1, v2, v3, v4, v5, v6, v7, v8, v9, v10, v11, v12, v13, v14, v15, hv⟩ := port_vs p A c
  rw [hSB] at hGS hIS
  simp only [shipV] at hGS hIS ⊢
  have HGS := Lib.hid hGS
  have HIS := Lib.hid hIS
  rw [hv] at hIP hBO hRO hPO hSM HCP ⊢
  have HIP := Lib.hid hIP
  have HBO := Lib.hid hBO
  have HRO := Lib.hid hRO
  have HPO2 := Lib.hid hPO
  have HSM := Lib.hid hSM
  clear hGS hIS hSB hv hIP hBO hRO hPO hSM hG hBT hp hs hre hcap
  go_enter Try.func8, Try.ntmps8
  have h30 := BoxAt.new w #[v0, v1, v2, v3, v4, v5, v6, v7, v8, v9, v10, v11, v12, v13, v14, v15]
  have h40 : ShipAt ((w.alloc (.cells #[v0, v1, v2, v3, v4, v5, v6, v7, v8, v9, v10, v11, v12, v13, v14, v15] 46)).alloc (.cells #[.int .i64 s1, .int .i64 s2, .int .i64 s3, .int .i64 s4, .int .i64 s5, .int .i64 s6] 48)) (w.heap.size + 1) #[.int .i64 s1, .int .i64 s2, .int .i64 s3, .int .i64 s4, .int .i64 s5, .int .i64 s6] := by
    have := heap_alloc_new (w.alloc (.cells #[v0, v1, v2, v3, v4, v5, v6, v7, v8, v9, v10, v11, v12, v13, v14, v15] 46)) (.cells #[.int .i64 s1, .int .i64 s2, .int .i64 s3, .int .i64 s4, .int .i64 s5, .int .i64 s6] 48)
    simpa [ShipAt] using this
  have hin0 : InP ((w.alloc (.cells #[v0, v1, v2, v3, v4, v5, v6, v7, v8, v9, v10, v11, v12, v13, v14, v15] 46)).alloc (.cells #[.int .i64 s1, .int .i64 s2, .int .i64 s3, .int .i64 s4, .int .i64 s5, .int .i64 s6] 48)) p A := Sl.alloc (Sl.alloc hin _) _
  have hb0 : Below w.heap.size w ((w.alloc (.cells #[v0, v1, v2, v3, v4, v5, v6, v7, v8, v9, v10, v11, v12, v13, v14, v15] 46)).alloc (.cells #[.int .i64 s1, .int .i64 s2, .int .i64 s3, .int .i64 s4, .int .i64 s5, .int .i64 s6] 48)) := ((Below.refl _ _).alloc (Nat.le_refl _) _).alloc (by simp) _
  have h31 := h30.alloc (.cells #[.int .i64 s1, .int .i64 s2, .int .i64 s3, .int .i64 s4, .int .i64 s5, .int .i64 s6] 48)
  go_upto_region 2 with (first
    | (refine wpList_load_box rfl rfl (by first | rfl | simp [Act.eval, Act.put]) h31 rfl ?_)
    | (go_at_call 26; refine (HCP.out _ hin0).mono ?_; rintro e w2 ⟨B, d, rfl, ho2, hb2⟩; have hZ := PortAt.new w2 Port.zero none 0)
    | (refine wpList_store_port rfl rfl (by first | rfl | simp [Act.eval, Act.put]) (by first | rfl | simp [Act.eval, Act.put]) hZ ?_; intro W h7 hr7))
  have hT := TS.mk (w := w) (BoxAt.below (BoxAt.alloc (h31.below hb2 h31.lt) _) (hr7.below (Nat.le_refl _)) (h31.below hb2 h31.lt).lt) h7
    (ShipAt.below ((h40.below hb2 h40.lt).below ((Below.refl _ _).alloc (Nat.le_refl _) _) (Nat.lt_of_lt_of_le h40.lt hb2.size)) (hr7.below (Nat.le_refl _)) (Nat.lt_of_lt_of_le h40.lt hb2.size))
    (Sl.below hin0 (hb2.trans (((Below.refl _ _).alloc (Nat.le_refl _) _).trans (hr7.below (Nat.le_refl _)) |>.mono hb2.size))) (own_sl (own_below ho2 (((Below.refl _ _).alloc (Nat.le_refl _) _).trans (hr7.below (Nat.le_refl _)))))
    ((below_go hb0 hb2).trans ((((Below.refl _ _).alloc (Nat.le_refl _) _).trans (hr7.below (Nat.le_refl _))).mono (below_go hb0 hb2).size))
  obtain ⟨zu0, zu1, zu2, zu3, zu4, zu5, zu6, zu7, zu8, zu9, zu10, zu11, zu12, zu13, zu14, zu15, hu⟩ := port_vs p B d
  rw [hu] at hT
  have hGDB := HGD.out B d
  have hBB := fun h => HB.out h B d
  have hRKB := fun h => HRK.out h B d
  unfold RanksAt at hRKB
  have hPLB := fun h => HPL.out h B d
  have hSMB := HSM.out B d
  rw [hu] at hGDB hBB hRKB hPLB hSMB
  have HGDB := Lib.hid hGDB
  have HBB := Lib.hid hBB
  have HRKB := Lib.hid hRKB
  have HPLB := Lib.hid hPLB
  have HSMB := Lib.hid hSMB
  clear hGDB hBB hRKB hPLB hSMB hu HGD HB HRK HPL HSM HCP
  have HIN0 := Lib.hid hin
  clear h30 h31 h40 hin0 hb0 ho2 hb2 hin hZ h7 hr7
  obtain ⟨g4, hg4⟩ : ∃ g4, w.heap.size + 1 = g4 := ⟨_, rfl⟩
  obtain ⟨g7, hg7⟩ : ∃ g7, w2.heap.size = g7 := ⟨_, rfl⟩
  rw [hg4, hg7] at hT
  rw [hg4, hg7]
  clear hg4 hg7
  obtain ⟨g3, hg3⟩ : ∃ g3, g3 = w.heap.size := ⟨_, rfl⟩
  have hT3 : TS w W p A B #[v0, v1, v2, v3, v4, v5, v6, v7, v8, v9, v10, v11, v12, v13, v14, v15] #[zu0, zu1, zu2, zu3, zu4, zu5, zu6, zu7, zu8, zu9, zu10, zu11, zu12, zu13, zu14, zu15] #[.int .i64 s1, .int .i64 s2, .int .i64 s3, .int .i64 s4, .int .i64 s5, .int .i64 s6] g3 g4 g7 := by rw [hg3]; exact hT
  clear hT
  simp only [Act.put]
  go_cut [3, 37] (fun x3 x37 wq => x3 = .pointer (some ⟨g3, 0, none⟩) ∧ x37 = .bool false ∧ TS w wq p A B #[v0, v1, v2, v3, v4, v5, v6, v7, v8, v9, v10, v11, v12, v13, v14, v15] #[zu0, zu1, zu2, zu3, zu4, zu5, zu6, zu7, zu8, zu9, zu10, zu11, zu12, zu13, zu14, zu15] #[.int .i64 s1, .int .i64 s2, .int .i64 s3, .int .i64 s4, .int .i64 s5, .int .i64 s6] g3 g4 g7)
  case first => as_aux_lemma =>
    rw [← hg3]
    clear hg3
    have hD := hT3.drew
    go_region_held3 (fun w' => (w'.cell? ⟨g3, 0, none⟩ = some v0 ∧ w'.cell? ⟨g3, 1, none⟩ = some v1 ∧ w'.cell? ⟨g3, 2, none⟩ = some v2 ∧ w'.cell? ⟨g3, 3, none⟩ = some v3 ∧ w'.cell? ⟨g3, 4, none⟩ = some v4 ∧ w'.cell? ⟨g3, 5, none⟩ = some v5 ∧ w'.cell? ⟨g3, 6, none⟩ = some v6 ∧ w'.cell? ⟨g3, 7, none⟩ = some v7 ∧ w'.cell? ⟨g3, 8, none⟩ = some v8 ∧ w'.cell? ⟨g3, 9, none⟩ = some v9 ∧ w'.cell? ⟨g3, 10, none⟩ = some v10 ∧ w'.cell? ⟨g3, 11, none⟩ = some v11 ∧ w'.cell? ⟨g3, 12, none⟩ = some v12 ∧ w'.cell? ⟨g3, 13, none⟩ = some v13 ∧ w'.cell? ⟨g3, 14, none⟩ = some v14 ∧ w'.cell? ⟨g3, 15, none⟩ = some v15) ∧ (w'.cell? ⟨g7, 0, none⟩ = some zu0 ∧ w'.cell? ⟨g7, 1, none⟩ = some zu1 ∧ w'.cell? ⟨g7, 2, none⟩ = some zu2 ∧ w'.cell? ⟨g7, 3, none⟩ = some zu3 ∧ w'.cell? ⟨g7, 4, none⟩ = some zu4 ∧ w'.cell? ⟨g7, 5, none⟩ = some zu5 ∧ w'.cell? ⟨g7, 6, none⟩ = some zu6 ∧ w'.cell? ⟨g7, 7, none⟩ = some zu7 ∧ w'.cell? ⟨g7, 8, none⟩ = some zu8 ∧ w'.cell? ⟨g7, 9, none⟩ = some zu9 ∧ w'.cell? ⟨g7, 10, none⟩ = some zu10 ∧ w'.cell? ⟨g7, 11, none⟩ = some zu11 ∧ w'.cell? ⟨g7, 12, none⟩ = some zu12 ∧ w'.cell? ⟨g7, 13, none⟩ = some zu13 ∧ w'.cell? ⟨g7, 14, none⟩ = some zu14 ∧ w'.cell? ⟨g7, 15, none⟩ = some zu15) ∧ (w'.cell? ⟨g4, 0, none⟩ = some (.int .i64 s1) ∧ w'.cell? ⟨g4, 1, none⟩ = some (.int .i64 s2) ∧ w'.cell? ⟨g4, 2, none⟩ = some (.int .i64 s3) ∧ w'.cell? ⟨g4, 3, none⟩ = some (.int .i64 s4) ∧ w'.cell? ⟨g4, 4, none⟩ = some (.int .i64 s5) ∧ w'.cell? ⟨g4, 5, none⟩ = some (.int .i64 s6)))
      (exact ⟨BoxAt.all hD.b3, BoxAt.all hD.b7, ShipAt.all hD.s4⟩)
      (first
        | (go_at_call 27; refine (HGDB.out _ hD.inB).mono ?_; rintro e w5 ⟨rfl, hb5⟩; have hD := hD.go hb5)
        | (go_at_call 28; refine (HIP.out _ hD.inA).mono ?_; rintro e w5 ⟨rfl, hb5⟩; have hD := hD.go hb5)
        | (go_at_call 29; refine (HGS.out _).mono ?_; rintro e w5 ⟨rfl, hb5⟩; have hD := hD.go hb5)
        | (go_at_call 30; refine (HIS.out _).mono ?_; rintro e w5 ⟨rfl, hb5⟩; have hD := hD.go hb5)
        | (go_at_call 32; refine (HNP.out _).mono ?_; rintro e w5 ⟨rfl, hb5⟩; have hD := hD.go hb5)
        | (go_at_call 31; refine (HSP.out _).mono ?_; rintro e w5 ⟨rfl, hb5⟩; have hD := hD.go hb5)
        | (go_at_call 33; refine (HPO.out _).mono ?_; rintro e w5 ⟨rfl, hb5⟩; have hD := hD.go hb5))
    go_wp2_with fail
    go_meet
    exact ⟨rfl, rfl, hD⟩
  clear hT3 hg3 HGDB HGS HIS HNP HSP HPO
  obtain ⟨rfl, rfl, hT⟩ := hcut
  have h3 := hT.b3
  cases hgd : goodP p with
  | false => as_aux_lemma =>
    rw [hgd] at HIP
    clear hgd HBB HBT HBO HRKB HRO HPLB HPO2 HSMB HST HLE HPN HML
    go_wp2_with (refine wpList_load_box rfl rfl (by first | rfl | simp [Act.eval, Act.put]) h3 rfl ?_)
    refine (HIP.out _ hT.inA).mono ?_
    rintro e w5 ⟨rfl, hb5⟩
    have hB := below_go hT.below hb5
    go_wp2_with fail
    go_ret
    exact ⟨rfl, hB⟩
  | true => as_aux_lemma =>
    have HBB2 := Lib.hid (HBB.out hgd)
    have HBT2 := Lib.hid (HBT.out hgd)
    have HBO2 := Lib.hid (HBO.out hgd)
    have HRK2 := Lib.hid (HRKB.out hgd)
    have HRO2 := Lib.hid (HRO.out hgd)
    have HPL2 := Lib.hid (HPLB.out hgd)
    have HPO3 := Lib.hid (HPO2.out hgd)
    have HST2 := Lib.hid (HST.out hgd)
    have HPN2 := Lib.hid (HPN.out hgd)
    have HLE2 := Lib.hid (HLE.out hgd)
    have HML2 := Lib.hid (HML.out hgd)
    rw [hgd] at HIP
    clear hgd HBB HBT HBO HRKB HRO HPLB HPO2 HST HLE HPN HML
    go_wp2_with (refine wpList_load_box rfl rfl (by first | rfl | simp [Act.eval, Act.put]) h3 rfl ?_)
    refine (HIP.out _ hT.inA).mono ?_
    rintro e w5 ⟨rfl, hb5⟩
    have hT5 := hT.go hb5
    have h7 := hT5.b7
    clear hT h3 hb5
    go_wp2_with (refine wpList_load_box rfl rfl (by first | rfl | simp [Act.eval, Act.put]) h7 rfl ?_)
    refine (HBB2.out _ hT5.inB).mono ?_
    rintro e w6 ⟨A6, c6, rfl, h6, hb6, hr6⟩
    rw [HBT2.out]
    have hT6 := hT5.go hb6
    have h3 := hT6.b3
    clear hT5 h7 hb6 hr6
    go_wp2_with (refine wpList_load_box rfl rfl (by first | rfl | simp [Act.eval, Act.put]) h3 rfl ?_)
    refine (HBO2.out _ hT6.inA).mono ?_
    rintro e w7 ⟨fs, hfl, hfs, rfl, hb7⟩
    rw [HBT2.out]
    have HS := Lib.hid (HST2.out fs hfl hfs)
    have hT7 := hT6.go hb7
    have h67 := h6.below hb7
    clear hT6 h3 h6 hb7 hfs HST2
    go_upto_region 8 with (first
      | (refine wpList_alloc_arr rfl rfl ?_; intro w8 gB b1 b2 hA8 hb8)
      | (refine wpList_store_arr rfl rfl (by first | rfl | simp [Act.eval, Act.put]) (by first | rfl | simp [Act.eval, Act.put]) hA8 hfl ?_; intro w9 hA9 hr9))
    have hT9 := (hT7.go hb8).row hr9 b1 hT7 hb8
    have h69 := h67.below (hb8.trans (hr9.below b1))
    clear hT7 h67 hA8 hb8 b1 b2 hr9
    go_cut [6] (fun x6 wq => x6 = .bool true ∧ Below w.heap.size w wq)
    case first => as_aux_lemma =>
      have hD := hT9.drew
      have h6 := Sl.drew h69
      have HRN := Lib.hid (show (natsI (rankL p)).length ≤ 100000 by rw [natsI_len]; have := rank_len p; have := HLE2.out; omega)
      have HPN3 := Lib.hid (show (thePlan p).length ≤ 100000 by rw [HPN2.out]; have := HLE2.out; omega)
      have HSL := Lib.hid (show p.ships.length ≤ 100000 by have := HLE2.out; omega)
      have hA := (show Arr w9.drew gB fs from ⟨hA9.len, hA9.at_⟩)
      refine wp_region_walks (S := fun w' => TS w w' p A B #[v0, v1, v2, v3, v4, v5, v6, v7, v8, v9, v10, v11, v12, v13, v14, v15] #[zu0, zu1, zu2, zu3, zu4, zu5, zu6, zu7, zu8, zu9, zu10, zu11, zu12, zu13, zu14, zu15] #[.int .i64 s1, .int .i64 s2, .int .i64 s3, .int .i64 s4, .int .i64 s5, .int .i64 s6] g3 g4 g7 ∧ Arr w' gB fs) [(0, true), (1, true), (2, true), (3, true), (4, false), (5, false), (6, true), (7, true), (8, true), (10, true), (9, false), (11, false), (12, false), (13, true), (14, true), (15, true), (17, true), (16, false), (18, false), (19, false), (20, true), (21, true), (22, true), (23, true), (24, false), (25, true), (26, true)] (by kernel_rfl) (by kernel_rfl) ⟨hD, hA⟩ ?_
      refine walk_take (v := ?_) rfl (by rfl) (fun w' hw' => ?_) ?_
      rotate_left
      · go_simp; try with_reducible rfl
      try simp only [Act.put, List.getElem_toArray, List.getElem_cons_zero, List.getElem_cons_succ, List.setIfInBounds_toArray, List.set_cons_zero, List.set_cons_succ]
      refine walk_take (v := ?_) rfl (by rfl) (fun w' hw' => ?_) ?_
      rotate_left
      · go_simp; try with_reducible rfl
      try simp only [Act.put, List.getElem_toArray, List.getElem_cons_zero, List.getElem_cons_succ, List.setIfInBounds_toArray, List.set_cons_zero, List.set_cons_succ]
      refine walk_take (v := ?_) rfl (by rfl) (fun w' hw' => ?_) ?_
      rotate_left
      · go_simp; try with_reducible rfl
      try simp only [Act.put, List.getElem_toArray, List.getElem_cons_zero, List.getElem_cons_succ, List.setIfInBounds_toArray, List.set_cons_zero, List.set_cons_succ]
      refine walk_take rfl (by rfl) (fun w' hw' => exec_load_arr rfl rfl hw'.2) ?_
      try simp only [Act.put, List.getElem_toArray, List.getElem_cons_zero, List.getElem_cons_succ, List.setIfInBounds_toArray, List.set_cons_zero, List.set_cons_succ]
      refine walk_ask rfl (by rfl) fun K hK => ?_
      go_simp
      go_at_call 24
      refine (steps_of fs _ hfl HS.out).mono ?_
      rintro e w5 ⟨AS, cS, rfl, hSS, hb5⟩
      have hD := hD.go hb5
      have hA := hA.below hb5 hA.lt
      have h6 := h6.below hb5
      refine hK.out _ _ ⟨hD, hA⟩ ?_
      clear hK K
      try simp only [Act.put, List.getElem_toArray, List.getElem_cons_zero, List.getElem_cons_succ, List.setIfInBounds_toArray, List.set_cons_zero, List.set_cons_succ]
      refine walk_ask rfl (by rfl) fun K hK => ?_
      go_simp
      go_at_call 14
      refine (sameRef_any (baseL p).1 (baseL p).1 A6 AS c6 cS _ h6 hSS HML2.out HML2.out).mono ?_
      rintro e w5 ⟨rfl, hb5⟩
      rw [show decide ((baseL p).1 = (baseL p).1) = true by simp]
      clear h6 hSS
      have hD := hD.go hb5
      have hA := hA.below hb5 hA.lt
      refine hK.out _ _ ⟨hD, hA⟩ ?_
      clear hK K
      try simp only [Act.put, List.getElem_toArray, List.getElem_cons_zero, List.getElem_cons_succ, List.setIfInBounds_toArray, List.set_cons_zero, List.set_cons_succ]
      refine walk_take (v := ?_) rfl (by rfl) (fun w' hw' => ?_) ?_
      rotate_left
      · go_simp; try with_reducible rfl
      try simp only [Act.put, List.getElem_toArray, List.getElem_cons_zero, List.getElem_cons_succ, List.setIfInBounds_toArray, List.set_cons_zero, List.set_cons_succ]
      refine walk_take (v := ?_) rfl (by rfl) (fun w' hw' => ?_) ?_
      rotate_left
      · go_simp; try with_reducible rfl
      try simp only [Act.put, List.getElem_toArray, List.getElem_cons_zero, List.getElem_cons_succ, List.setIfInBounds_toArray, List.set_cons_zero, List.set_cons_succ]
      refine walk_take rfl (by rfl) (fun w' hw' => exec_load_box rfl rfl hw'.1.b7 rfl) ?_
      try simp only [Act.put, List.getElem_toArray, List.getElem_cons_zero, List.getElem_cons_succ, List.setIfInBounds_toArray, List.set_cons_zero, List.set_cons_succ]
      refine walk_take rfl (by rfl) (fun w' hw' => exec_load_box rfl rfl hw'.1.b3 rfl) ?_
      try simp only [Act.put, List.getElem_toArray, List.getElem_cons_zero, List.getElem_cons_succ, List.setIfInBounds_toArray, List.set_cons_zero, List.set_cons_succ]
      refine walk_ask rfl (by rfl) fun K hK => ?_
      go_simp
      go_at_call 37
      refine (HRK2.out _ hD.inB).mono ?_
      rintro e w5 ⟨A7, c7, rfl, h71, hb5, _⟩
      have hD := hD.go hb5
      have hA := hA.below hb5 hA.lt
      refine hK.out _ _ ⟨hD, hA⟩ ?_
      clear hK K
      try simp only [Act.put, List.getElem_toArray, List.getElem_cons_zero, List.getElem_cons_succ, List.setIfInBounds_toArray, List.set_cons_zero, List.set_cons_succ]
      refine walk_ask rfl (by rfl) fun K hK => ?_
      go_simp
      go_at_call 38
      refine (HRO2.out _ hD.inA).mono ?_
      rintro e w5 ⟨A8, c8, rfl, h72, hb5, _⟩
      have hD := hD.go hb5
      have hA := hA.below hb5 hA.lt
      have h71 := h71.below hb5
      refine hK.out _ _ ⟨hD, hA⟩ ?_
      clear hK K
      try simp only [Act.put, List.getElem_toArray, List.getElem_cons_zero, List.getElem_cons_succ, List.setIfInBounds_toArray, List.set_cons_zero, List.set_cons_succ]
      refine walk_ask rfl (by rfl) fun K hK => ?_
      go_simp
      go_at_call 36
      refine (sameInts_any (natsI (rankL p)) (natsI (rankL p)) A7 A8 c7 c8 _ h71 h72 HRN.out HRN.out).mono ?_
      rintro e w5 ⟨rfl, hb5⟩
      rw [show decide (natsI (rankL p) = natsI (rankL p)) = true by simp]
      clear h71 h72
      have hD := hD.go hb5
      have hA := hA.below hb5 hA.lt
      refine hK.out _ _ ⟨hD, hA⟩ ?_
      clear hK K
      try simp only [Act.put, List.getElem_toArray, List.getElem_cons_zero, List.getElem_cons_succ, List.setIfInBounds_toArray, List.set_cons_zero, List.set_cons_succ]
      refine walk_take (v := ?_) rfl (by rfl) (fun w' hw' => ?_) ?_
      rotate_left
      · go_simp; try with_reducible rfl
      try simp only [Act.put, List.getElem_toArray, List.getElem_cons_zero, List.getElem_cons_succ, List.setIfInBounds_toArray, List.set_cons_zero, List.set_cons_succ]
      refine walk_take (v := ?_) rfl (by rfl) (fun w' hw' => ?_) ?_
      rotate_left
      · go_simp; try with_reducible rfl
      try simp only [Act.put, List.getElem_toArray, List.getElem_cons_zero, List.getElem_cons_succ, List.setIfInBounds_toArray, List.set_cons_zero, List.set_cons_succ]
      refine walk_take rfl (by rfl) (fun w' hw' => exec_load_box rfl rfl hw'.1.b7 rfl) ?_
      try simp only [Act.put, List.getElem_toArray, List.getElem_cons_zero, List.getElem_cons_succ, List.setIfInBounds_toArray, List.set_cons_zero, List.set_cons_succ]
      refine walk_take rfl (by rfl) (fun w' hw' => exec_load_box rfl rfl hw'.1.b3 rfl) ?_
      try simp only [Act.put, List.getElem_toArray, List.getElem_cons_zero, List.getElem_cons_succ, List.setIfInBounds_toArray, List.set_cons_zero, List.set_cons_succ]
      refine walk_ask rfl (by rfl) fun K hK => ?_
      go_simp
      go_at_call 39
      refine (HPL2.out _ hD.inB).mono ?_
      rintro e w5 ⟨A9, c9, rfl, h91, hb5, _⟩
      have hD := hD.go hb5
      have hA := hA.below hb5 hA.lt
      refine hK.out _ _ ⟨hD, hA⟩ ?_
      clear hK K
      try simp only [Act.put, List.getElem_toArray, List.getElem_cons_zero, List.getElem_cons_succ, List.setIfInBounds_toArray, List.set_cons_zero, List.set_cons_succ]
      refine walk_ask rfl (by rfl) fun K hK => ?_
      go_simp
      go_at_call 40
      refine (HPO3.out _ hD.inA).mono ?_
      rintro e w5 ⟨A10, c10, rfl, h92, hb5, _⟩
      have hD := hD.go hb5
      have hA := hA.below hb5 hA.lt
      have h91 := h91.below hb5
      refine hK.out _ _ ⟨hD, hA⟩ ?_
      clear hK K
      try simp only [Act.put, List.getElem_toArray, List.getElem_cons_zero, List.getElem_cons_succ, List.setIfInBounds_toArray, List.set_cons_zero, List.set_cons_succ]
      refine walk_ask rfl (by rfl) fun K hK => ?_
      go_simp
      go_at_call 36
      refine (sameInts_any (thePlan p) (thePlan p) A9 A10 c9 c10 _ h91 h92 HPN3.out HPN3.out).mono ?_
      rintro e w5 ⟨rfl, hb5⟩
      rw [show decide (thePlan p = thePlan p) = true by simp]
      clear h91 h92
      have hD := hD.go hb5
      have hA := hA.below hb5 hA.lt
      refine hK.out _ _ ⟨hD, hA⟩ ?_
      clear hK K
      try simp only [Act.put, List.getElem_toArray, List.getElem_cons_zero, List.getElem_cons_succ, List.setIfInBounds_toArray, List.set_cons_zero, List.set_cons_succ]
      refine walk_take (v := ?_) rfl (by rfl) (fun w' hw' => ?_) ?_
      rotate_left
      · go_simp; try with_reducible rfl
      try simp only [Act.put, List.getElem_toArray, List.getElem_cons_zero, List.getElem_cons_succ, List.setIfInBounds_toArray, List.set_cons_zero, List.set_cons_succ]
      refine walk_take (v := ?_) rfl (by rfl) (fun w' hw' => ?_) ?_
      rotate_left
      · go_simp; try with_reducible rfl
      try simp only [Act.put, List.getElem_toArray, List.getElem_cons_zero, List.getElem_cons_succ, List.setIfInBounds_toArray, List.set_cons_zero, List.set_cons_succ]
      refine walk_take rfl (by rfl) (fun w' hw' => exec_load_box rfl rfl hw'.1.b7 rfl) ?_
      try simp only [Act.put, List.getElem_toArray, List.getElem_cons_zero, List.getElem_cons_succ, List.setIfInBounds_toArray, List.set_cons_zero, List.set_cons_succ]
      refine walk_take rfl (by rfl) (fun w' hw' => exec_load_box rfl rfl hw'.1.b3 rfl) ?_
      try simp only [Act.put, List.getElem_toArray, List.getElem_cons_zero, List.getElem_cons_succ, List.setIfInBounds_toArray, List.set_cons_zero, List.set_cons_succ]
      refine walk_ask rfl (by rfl) fun K hK => ?_
      go_simp
      go_at_call 31
      refine (HSMB.out _ hD.inB hD.inA HSL.out).mono ?_
      rintro e w5 ⟨rfl, hb5⟩
      have hD := hD.go hb5
      have hA := hA.below hb5 hA.lt
      refine hK.out _ _ ⟨hD, hA⟩ ?_
      clear hK K
      try simp only [Act.put, List.getElem_toArray, List.getElem_cons_zero, List.getElem_cons_succ, List.setIfInBounds_toArray, List.set_cons_zero, List.set_cons_succ]
      refine walk_take (v := ?_) rfl (by rfl) (fun w' hw' => ?_) ?_
      rotate_left
      · go_simp; try with_reducible rfl
      try simp only [Act.put, List.getElem_toArray, List.getElem_cons_zero, List.getElem_cons_succ, List.setIfInBounds_toArray, List.set_cons_zero, List.set_cons_succ]
      refine walk_take (v := ?_) rfl (by rfl) (fun w' hw' => ?_) ?_
      rotate_left
      · go_simp; try with_reducible rfl
      try simp only [Act.put, List.getElem_toArray, List.getElem_cons_zero, List.getElem_cons_succ, List.setIfInBounds_toArray, List.set_cons_zero, List.set_cons_succ]
      refine walk_done (NoPanic.normal ?_)
      all_goals
        go_wp2_with fail
        go_meet
        exact ⟨rfl, hD.below⟩
    clear hT9 h69 hA9 HBB2 HBT2 HBO2 HRK2 HRO2 HPL2 HPO3 HPN2 HLE2 HML2 HIP HSMB HS
    obtain ⟨rfl, hB⟩ := hcut
    go_wp2_with fail
    go_ret
    exact ⟨rfl, hB⟩
end Go.Proofs.Ytifmdkcpbajdcaa
