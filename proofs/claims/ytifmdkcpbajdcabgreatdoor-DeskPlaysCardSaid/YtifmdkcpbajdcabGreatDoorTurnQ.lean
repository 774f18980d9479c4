/- Words: the document's turns: what is handed back; a map from numbers to texts; which states an order may find. -/
import Derived.Test.YtifmdkcpbajdcabGreatDoorRefP6
import Derived.Test.YtifmdkcpbajdcabGreatDoorTellR
import Derived.Test.YtifmdkcpbajdcabGreatDoorShelf
import Derived.Maps.OwnSet
import Derived.Laws.IdiomStrings
import Derived.Test.YtifmdkcpbajdcabGreatDoorDueQ
set_option linter.unusedVariables false
set_option linter.unusedSimpArgs false
set_option maxHeartbeats 16000000
namespace Go.Proofs.YtifmdkcpbajdcabGreatDoor
open Go.RowKit Go.Proofs Plain Go.Maps
open Go.Act renaming put -> aP, eval -> aE
theorem zeroA : portA Port.zero none 0 = #[.int .i64 0, .slice none 0 0, .int .i64 0, .int .i64 0, .int .i64 0, .int .i64 0, .int .i64 0, .int .i64 0, .int .i64 0, .int .i64 0, .int .i64 0, .int .i64 0, .int .i64 0, .int .i64 0, .int .i64 0, .int .i64 0] := rfl
theorem ownK_fr {w : World} {base c : Nat} {A : Option Addr} {l : List Ship} (h : OwnK w base (.slice A l.length c) l) : Fr base A := by
  rcases h.2 with ⟨hv, _⟩ | ⟨g, cap, cur, hv, hg, _⟩
  · injection hv with hA _ _; subst hA; exact Fr.none _
  · injection hv with hA _ _; subst hA; exact Fr.some hg
theorem ownK_cap {w : World} {base c n : Nat} {A : Option Addr} {T : TypeId} {size : Nat} {xs : List Value} (h : w.ownsRow base T size (.slice A n c) n xs) : n <= c := by
  rcases h.2 with ⟨hv, hn⟩ | ⟨g, cap, cur, hv, _, _, hn, _⟩
  · injection hv with _ h1 h2; omega
  · injection hv with _ h1 h2; omega
def RetTellC (r : Port × Int × Int) (w : World) (e : Ending) (w' : World) : Prop :=
  ∃ A c, e = .returned (.tuple #[.agg (portA r.1 A c), .int .i64 r.2.1, .int .i64 r.2.2]) /\ InP w' r.1 A /\ r.1.ships.length <= c /\ Below w.heap.size w w' /\ (r.2.2 = 0 -> Fr w.heap.size A)
theorem tellL_err {p : Port} {o : Order} {e : Int} (h : tell1 p o = (p, 0, e)) (he : e ≠ 0) : tellL p o = (p, 0, e) := by
  rw [tellL_no (by rw [h]; exact he), h]
theorem tellL_no6 {p q : Port} {o : Order} {n : Int} (h : tell1 p o = (q, n, 0)) (hb : (baseL q).2 = false) : tellL p o = (p, 0, 6) := tellL_room (by rw [h]) (by rw [h]; exact hb)
theorem tellL_ok {p q : Port} {o : Order} {n : Int} (h : tell1 p o = (q, n, 0)) (hb : (baseL q).2 = true) : tellL p o = (q, n, 0) := by
  rw [tellL_yes (by rw [h]) (by rw [h]; exact hb), h]
theorem tell1_fair2 {p q : Port} {o : Order} {n : Int} (hf : Plain.Fair p) (h : tell1 p o = (q, n, 0)) : Plain.Fair q := by
  have := tell1_fair (o := o) hf (by rw [h])
  rwa [h] at this
set_option maxRecDepth 100000 in
theorem noP_any (p : Port) (A : Option Addr) (c g : Nat) (er : Int) (w : World) (hP : PortAt w g p A c) :
    Calls Tryz.prog 70 #[.int .i64 er, .pointer (some ⟨g, 0, none⟩)] w fun e w' => e = .returned (.tuple #[.agg (portA p A c), .int .i64 0, .int .i64 er]) /\ Below w.heap.size w w' := by
  have hP1 := hP.alloc (.cells (portA Port.zero none 0) 36)
  have hZ1 := PortAt.new w Port.zero none 0
  have hB1 : Below w.heap.size w (w.alloc (.cells (portA Port.zero none 0) 36)) := (Below.refl _ _).alloc (Nat.le_refl _) _
  have hg := hP.lt
  obtain ⟨W, hW⟩ : ∃ W, W = w.alloc (.cells (portA Port.zero none 0) 36) := ⟨_, rfl⟩
  rw [<- hW] at hP1 hZ1 hB1
  rw [zeroA] at hW
  go_enter Tryz.func70, Tryz.ntmps70
  go_upto_region 1 with (fail)
  rw [<- hW]
  clear hW hP
  go_wp2_with (first
    | (refine wLP rfl rfl ?hx hP1 ?_; (case hx => first | rfl | (simp [aE, aP]; done)))
    | (refine wSP rfl rfl (by first | rfl | simp [aE, aP]) (by first | rfl | simp [aE, aP]) hZ1 ?_; intro w4 hZ4 hr4))
  refine bodyPost_ret (rP3 rfl _ _ w.heap.size rfl hZ4) rfl ?_
  exact ⟨rfl, hB1.trans (hr4.below (Nat.le_refl _))⟩
def strR (v : Value) : Option (DataW Unit × List MemPlace) := match v with | .string s => some (.lit (.string s.data.toList), []) | _ => none
theorem strR_inv {v : Value} {l : List UInt8} {ps : List MemPlace} (h : strR v = some (.lit (.string l), ps)) : v = .string ⟨l.toArray⟩ := by
  cases v with
  | string s =>
    simp only [strR, Option.some.injEq, Prod.mk.injEq, DataW.lit.injEq, Lit.string.injEq] at h
    obtain ⟨h, _⟩ := h
    subst h
    rfl
  | _ => simp [strR] at h
theorem zero_str (w : World) : (zeroValue 9).run Tryz.prog w = .ok (.string ByteArray.empty) w := by kernel_rfl
def MayAt (w : World) (b n : Nat) (f : Int -> List UInt8) : Prop :=
  ∃ D : DataW Unit, w.ownsMap Tryz.prog 3 strR b n D /\ IsMap D /\ ∀ q : Int, D.atKey (.int .i64 q) (.lit (.string [])) = .lit (.string (f q))
theorem MayAt.made (w : World) : MayAt (w.alloc (.map #[] 0)) w.heap.size 0 (fun _ => []) :=
  ⟨.map [], World.ownsMap_made _ _ _ _, isMap_empty, fun q => by simp [DataW.atKey]⟩
theorem MayAt.look {w : World} {b n : Nat} {f : Int -> List UInt8} (h : MayAt w b n f) {q : Int} (hq : i64 q) {l : List UInt8} (hl : f q = l) : (Instr.lookup 115 (.map (some b)) (.int .i64 q) false).run Tryz.prog w = .ok (.string ⟨l.toArray⟩) w := by
  obtain ⟨D, a, c, d⟩ := h
  have hwf : (Lit.int .i64 q).wf = true := WalkArith.wf_i64 hq
  obtain ⟨v, ps, hrun, hv⟩ := a.lookup seenKey Tryz.underlying115 (zero_str w) (zd := .lit (.string [])) (zp := []) rfl (keyOf_int_mk Tryz.underlying3 hwf)
  rw [d q, hl] at hv
  rw [hrun, strR_inv hv]
section
variable {ops : Array Oper} {rest : List Oper} {o : Oper} {a : Act} {w : World} {Q : Exit -> Act -> World -> Prop} {b n : Nat} {f : Int -> List UInt8}
theorem wPM {m x v : Operand} {q : Int} {s : ByteArray} (hg : o.guard = none) (ho : o.op = Op.insert 115 m x v) (hm : a.eval m = .map (some b)) (hx : a.eval x = .int .i64 q) (hv : a.eval v = .string s)
    (h : MayAt w b n f) (hn : n < 1000) (hq : i64 q) (hK : ∀ w', MayAt w' b (n + 1) (fun k => if k = q then s.data.toList else f k) -> w.grownBy w' (some b) -> wpList Tryz.prog ops Q rest (a.put o.dst undef) w') : wpList Tryz.prog ops Q (o :: rest) a w := by
  obtain ⟨D, hown, c, d⟩ := h
  have hwf : (Lit.int .i64 q).wf = true := WalkArith.wf_i64 hq
  obtain ⟨w', hrun, r1, r2⟩ := hown.update seenKey Tryz.underlying115 (by unfold maxLen; omega) (keyOf_int_mk Tryz.underlying3 hwf) (show strR (.string s) = some (.lit (.string s.data.toList), []) from rfl)
  refine wpList_plain hg fun K' hK' => ?_
  unfold Oper.wp
  simp [execOp, ho, hm, hx, hv, hrun, Result.andThen]
  refine hK' _ _ (hK w' ⟨_, r1, c.put _ _, fun p => ?_⟩ r2)
  by_cases e : p = q
  · subst e
    rw [atKey_put_same c (by trivial)]; simp
  · rw [atKey_put_other (by simpa using e), d p]; simp [e]
theorem wpList_look_may {m x : Operand} {q : Int} {l : List UInt8} (hg : o.guard = none) (ho : o.op = Op.lookup 115 m x false) (hm : a.eval m = .map (some b)) (hx : a.eval x = .int .i64 q)
    (h : MayAt w b n f) (hq : i64 q) (hl : f q = l) (hK : wpList Tryz.prog ops Q rest (a.put o.dst (.string ⟨l.toArray⟩)) w) : wpList Tryz.prog ops Q (o :: rest) a w := by
  refine wpList_plain hg fun K' hK' => ?_
  unfold Oper.wp
  simp [execOp, ho, hm, hx, h.look hq hl, Result.andThen]
  exact hK' _ _ hK
end
theorem one_byteT (w : World) (b : UInt8) (n : Int) (hn : (b.toNat : Int) = n) :
    (convert 109 9 (.slice (some ⟨w.heap.size, 0, none⟩) 1 1)).run Tryz.prog (w.alloc (.cells #[.int .u8 n] 5)) = .ok (.string ⟨#[b]⟩) (w.alloc (.cells #[.int .u8 n] 5)) := by
  have h := run_convert_bytes_back (P := Tryz.prog) (w.alloc (.cells #[.int .u8 n] 5)) 109 9 5 ⟨w.heap.size, 0, none⟩ 1 [b] Tryz.underlying109 Tryz.underlying5 Tryz.underlying9 (fun j hj => by
    obtain rfl : j = 0 := by simpa using hj
    have : (⟨w.heap.size, 0, none⟩ : Addr).add 0 = ⟨w.heap.size, 0, none⟩ := by unfold Addr.add; split <;> simp_all
    rw [this]
    simp [hn])
  exact h
theorem st_byte {st : Int} (h : 1 <= st /\ st <= 4) : ∃ b : UInt8, (b.toNat : Int) = 48 + st /\ IntKind.u8.wrap (48 + st) = 48 + st /\
    decide (0 <= Lib.indexByte [49, 50, 51] b) = decide (st ∈ [1, 2, 3]) /\ decide (0 <= Lib.indexByte [49] b) = decide (st ∈ [1]) /\ decide (0 <= Lib.indexByte [50] b) = decide (st ∈ [2]) := by
  rcases (by omega : st = 1 \/ st = 2 \/ st = 3 \/ st = 4) with rfl | rfl | rfl | rfl
  · exact ⟨49, by decide, by decide, by decide, by decide, by decide⟩
  · exact ⟨50, by decide, by decide, by decide, by decide, by decide⟩
  · exact ⟨51, by decide, by decide, by decide, by decide, by decide⟩
  · exact ⟨52, by decide, by decide, by decide, by decide, by decide⟩
end Go.Proofs.YtifmdkcpbajdcabGreatDoor
namespace Go.Proofs.YtifmdkcpbajdcabGreatDoor
open Go.RowKit Go.Proofs Plain
section
variable {ops : Array Oper} {rest : List Oper} {o : Oper} {a : Act} {w : World} {Q : Exit -> Act -> World -> Prop}
theorem wpList_append_intB (hgd : o.guard = none) (s x : Operand) (ho : o.op = .call { callee := .builtin .append, args := #[s, x], argTypes := #[38, 38] })
    (base : Nat) (v : Value) (l : List Int) (hs : a.eval s = v) (hown : OwnI w base v l) (g c : Nat) (t : Int) (hx : a.eval x = .slice (some ⟨g, 0, none⟩) 1 c)
    (hg : w.heap[g]? = some (.cells #[.int .i64 t] 3 (0, 0))) (hl : (l.length + 1) * 8 <= 140737488355328) (hb : base <= w.heap.size)
    (h : ∀ v' w', OwnI w' base v' (l ++ [t]) -> w.grownBy w' v.ownBlock -> wpList Tryz.prog ops Q rest (a.put o.dst v') w') : wpList Tryz.prog ops Q (o :: rest) a w := by
  obtain ⟨i0, hi0, hz0, hzs, hzb⟩ := info_parts int_info
  refine wpList_append_own w hgd s x 38 ho base 3 i0 _ 1 8 Tryz.underlying38 hi0 hz0 hzs hzb rfl (by decide) v l.length _ hs hown ⟨g, 0, none⟩ 1 c [.int .i64 t] hx rfl (news_row hg (by simp [Value.oneCell'])) (by simp [Value.oneCell']) (by unfold maxLen; omega) (by omega) hb fun v' w' ho' hg' _ => ?_
  exact h v' w' (by unfold OwnI; rw [List.map_append, List.length_append]; exact ho') hg'
end
end Go.Proofs.YtifmdkcpbajdcabGreatDoor
namespace Go.Proofs.YtifmdkcpbajdcabGreatDoor
open Go.RowKit Go.Proofs Plain
open Go.Act renaming put -> aP, eval -> aE
open Go.Lib renaming hid -> hd_
def RetP2C (r : Port × Int) (w : World) (e : Ending) (w' : World) : Prop :=
  ∃ A c, e = .returned (.tuple #[.agg (portA r.1 A c), .int .i64 r.2]) /\ InP w' r.1 A /\ r.1.ships.length <= c /\ Below w.heap.size w w' /\ (r.2 = 0 -> Fr w.heap.size A)
set_option maxRecDepth 100000 in
theorem refLater_walk (p : Port) (A : Option Addr) (c : Nat) (w : World) (hg : PGood p) (hcap : p.ships.length <= c) (hin : InP w p A) (hn : p.now + 1 < 300) :
    Calls Tryz.prog 42 #[.agg (portA p A c)] w (RetP2C (laterL p, 0) w) := by
  have HW := hd_ (fair_wf hg.toFair)
  have HG := hd_ ((goodP_iff hg.four).2 hg)
  have HGD := hd_ hg
  have hn2 := hg.now
  have hlen := hg.len
  have HLS := hd_ (later_ships p)
  have d0 : (p.now == 299) = false := by simp; omega
  clear hg
  simp only [portA]
  go_enter Tryz.func42, Tryz.ntmps42
  have hP0 : PortAt ((w.alloc (.cells (portA p A c) 36)).alloc (.cells (portA Port.zero none 0) 36)) w.heap.size p A c := (PortAt.new w p A c).alloc _
  have hZ0 : PortAt ((w.alloc (.cells (portA p A c) 36)).alloc (.cells (portA Port.zero none 0) 36)) (w.heap.size + 1) Port.zero none 0 := by
    have := PortAt.new (w.alloc (.cells (portA p A c) 36)) Port.zero none 0
    simpa using this
  have hB0 : Below w.heap.size w ((w.alloc (.cells (portA p A c) 36)).alloc (.cells (portA Port.zero none 0) 36)) := ((Below.refl _ _).alloc (Nat.le_refl _) _).alloc (by simp) _
  have hs0 : ((w.alloc (.cells (portA p A c) 36)).alloc (.cells (portA Port.zero none 0) 36)).heap.size = w.heap.size + 2 := by simp
  obtain ⟨W0, hW0⟩ : ∃ W0, W0 = ((w.alloc (.cells (portA p A c) 36)).alloc (.cells (portA Port.zero none 0) 36)) := ⟨_, rfl⟩
  rw [<- hW0] at hP0 hZ0 hB0 hs0
  rw [zeroA] at hW0
  simp only [portA] at hW0
  have HW0 := hd_ hW0
  clear hW0
  go_upto_region 1 with (fail)
  rw [<- HW0.out]
  clear HW0
  go_wp2_with (refine wLP rfl rfl (by first | rfl | simp [aE, aP]) hP0 ?_)
  refine (isPort_any p A c _ HW.out hcap (Sl.below hin hB0)).mono ?_
  rintro e w1 ⟨rfl, hb1⟩
  rw [HG.out]
  have hP1 := hP0.below hb1 (by rw [hs0]; omega)
  have hZ1 := hZ0.below hb1 (by rw [hs0]; omega)
  have hB1 := bG_ hB0 hb1
  have hs1 := hb1.size
  rw [hs0] at hs1
  have q0 := hP1.now
  clear hP0 hZ0 hB0 hb1 hs0
  have hwr : IntKind.i64.wrap (p.now + 1) = p.now + 1 := IntWalk.i64_in _ (by omega)
  go_upto_region 6 with (first
    | (refine wLP rfl rfl (by first | rfl | simp [aE, aP]) hP1 ?_)
    | (go_at_call 44; refine (copyP_any p A c _ (Sl.below hin hB1) (by unfold maxLen; omega) (by omega)).mono ?_; rintro e w2 ⟨A2, c2, rfl, ho2, hb2⟩; have hZ8 := PortAt.new w2 Port.zero none 0)
    | (refine wSP rfl rfl (by first | rfl | simp [aE, aP]) (by first | rfl | simp [aE, aP]) hZ8 ?_; intro W hQ hr8))
  have hb8 : Below w2.heap.size w2 W := ((Below.refl _ _).alloc (Nat.le_refl _) _).trans (hr8.below (Nat.le_refl _))
  have hs2 := hb2.size
  have hb3 := bG_ hb2 hb8
  have hZ := hZ1.below hb3 (by omega)
  have hB := bG_ hB1 hb3
  have hown : OwnK W (w.heap.size + 2) (.slice A2 p.ships.length c2) p.ships := own_weak (oBl ho2 hb8) hs1
  have hog : (Value.slice A2 p.ships.length c2).ownBlock ≠ some w2.heap.size := fun e => by
    rcases ho2.2 with ⟨hv, _⟩ | ⟨gg, cap, cur, hv, _, hh, _⟩
    · rw [hv] at e; cases e
    · rw [hv] at e; simp only [Value.ownBlock, Option.some.injEq] at e
      have := (Array.getElem?_eq_some_iff.1 hh).1
      omega
  have hg8 : w.heap.size + 2 <= w2.heap.size := by omega
  obtain ⟨g8, hg8e⟩ : ∃ g8, w2.heap.size = g8 := ⟨_, rfl⟩
  rw [hg8e] at hQ hog hg8
  rw [hg8e]
  clear hP1 hZ1 hB1 hb2 hb8 hb3 hr8 hZ8 ho2 hs1 hs2 hg8e q0
  have q0 := hQ.now
  have f0 := hQ.frozen 0
  have hQ4 : PortAt (W.setCell ⟨g8, 0, none⟩ (.int .i64 (p.now + 1))) g8 { p with now := p.now + 1 } A2 c2 := hQ.put 0 _ _ _ _ (by simp [portA, Port.keep])
  have hZ4 := hZ.beside ⟨g8, 0, none⟩ (.int .i64 (p.now + 1)) (by simp; omega)
  have hB4 := hB.setCell (p := ⟨g8, 0, none⟩) (by simp; omega) (.int .i64 (p.now + 1))
  have ho4 : OwnK (W.setCell ⟨g8, 0, none⟩ (.int .i64 (p.now + 1))) (w.heap.size + 2) (.slice A2 p.ships.length c2) p.ships := own_one' hown (OneRow.of_cell W ⟨g8, 0, none⟩ (.int .i64 (p.now + 1))) hog
  have q1 := hQ4.ships
  have hz0 := step_zero (lateF p.now) p.ships
  clear hQ hZ hB hown
  go_wp2_with fail
  go_loopw [24] (fun i wr => ∃ k : Nat, k <= p.ships.length /\ i = .int .i64 k /\ OwnK wr (w.heap.size + 2) (.slice A2 p.ships.length c2) (stepTo (lateF p.now) p.ships k) /\ PortAt wr g8 { p with now := p.now + 1 } A2 c2 /\ PortAt wr (w.heap.size + 1) Port.zero none 0 /\ Below w.heap.size w wr) (fun i _ => p.ships.length - (intOf i).toNat)
  case atStart => exact ⟨0, Nat.zero_le _, rfl, by rw [hz0]; exact ho4, hQ4, hZ4, hB4⟩
  case round =>
    clear hQ4 hZ4 hB4 ho4 hz0 q0 q1 f0
    obtain ⟨k, hk, rfl, ho, hP, hZ, hB⟩ := hrel
    have q0 := hP.now
    have q1 := hP.ships
    dsimp only at q0 q1
    have hgl := hP.lt
    have hll := step_len (lateF p.now) p.ships k
    by_cases hlt : k < p.ships.length
    · have HNX := hd_ (step_next (lateF p.now) p.ships k hlt)
      have HSM := hd_ (fun (e : lateF p.now k (p.ship k) = p.ship k) => step_same (lateF p.now) p.ships k (fun _ => e))
      have hgk := step_get (lateF p.now) p.ships k k hlt
      rw [if_neg (Nat.lt_irrefl k)] at hgk
      have hship := (HGD.out.ship k hlt).1
      have hlies := hship.lies
      have hlg := hship.long
      have hoth := hship.other
      clear hship
      have HF := hd_ (show lateF p.now k (p.ship k) = if (p.ship k).state = 3 /\ (p.ship k).since + (p.ship k).long <= p.now + 1 then { p.ship k with state := 4, since := 0 } else p.ship k from rfl)
      rw [show p.ships.getD k Ship.zero = p.ship k from rfl] at HNX
      change (stepTo (lateF p.now) p.ships k).getD k Ship.zero = p.ship k at hgk
      generalize stepTo (lateF p.now) p.ships k = L at *
      have ho' : OwnK wr (w.heap.size + 2) (.slice A2 L.length c2) L := by rw [hll]; exact ho
      have hP' : PortAt wr g8 { p with now := p.now + 1, ships := L } A2 c2 := by
        unfold PortAt; rw [portA_ships { p with now := p.now + 1 } L A2 c2 hll]; exact hP
      have hog' : (Value.slice A2 L.length c2).ownBlock ≠ some g8 := fun e => hog (by rw [<- e]; cases A2 <;> rfl)
      obtain ⟨b, hA2, _, _⟩ := ownK_at ho' (by rw [hll]; omega)
      obtain ⟨_, F⟩ := found (p := { p with now := p.now + 1, ships := L }) hP' ho' hog' (by show k < L.length; rw [hll]; exact hlt) hA2
      subst hA2
      have hpk : ({ p with now := p.now + 1, ships := L } : Port).ship k = p.ship k := hgk
      have e0 := F.cells 0 (by omega)
      have e1 := F.cells 1 (by omega)
      have e2 := F.cells 2 (by omega)
      have e3 := F.cells 3 (by omega)
      have e4 := F.cells 4 (by omega)
      have e5 := F.cells 5 (by omega)
      rw [hpk] at e0 e1 e2 e3 e4 e5
      rw [Nat.add_zero] at e0
      have i0 := F.ice (k * 6)
      have i4 := F.ice (k * 6 + 4)
      have hFb := F.base
      have hFl := F.blk
      have hne := F.ne
      clear F hpk hog' hP'
      generalize p.ship k = x at *
      obtain ⟨st, wd, lg, cl, si, qu⟩ := x
      simp only [shipV] at e0 e1 e2 e3 e4 e5
      dsimp only at hlies hlg HF hoth
      change wr.cell? _ = some (.int .i64 st) at e0
      change wr.cell? _ = some (.int .i64 wd) at e1
      change wr.cell? _ = some (.int .i64 lg) at e2
      change wr.cell? _ = some (.int .i64 cl) at e3
      change wr.cell? _ = some (.int .i64 si) at e4
      change wr.cell? _ = some (.int .i64 qu) at e5
      have HPA := hd_ (hP.alloc (.cells #[.int .i64 st, .int .i64 wd, .int .i64 lg, .int .i64 cl, .int .i64 si, .int .i64 qu] 61))
      have HZA := hd_ (hZ.alloc (.cells #[.int .i64 st, .int .i64 wd, .int .i64 lg, .int .i64 cl, .int .i64 si, .int .i64 qu] 61))
      have HBA := hd_ (hB.alloc hB.size (.cells #[.int .i64 st, .int .i64 wd, .int .i64 lg, .int .i64 cl, .int .i64 si, .int .i64 qu] 61))
      have HOA := hd_ (show OwnK (wr.alloc (.cells #[.int .i64 st, .int .i64 wd, .int .i64 lg, .int .i64 cl, .int .i64 si, .int .i64 qu] 61)) (w.heap.size + 2) (.slice (some ⟨b, 0, none⟩) L.length c2) L from World.ownsRow.alloc ho' _)
      by_cases h3 : st = 3
      · obtain ⟨l1, l2, l3, l4⟩ := hlies h3
        subst h3
        have hwx : IntKind.i64.wrap (si + lg) = si + lg := IntWalk.i64_in _ (by omega)
        by_cases h4 : si + lg = p.now + 1
        · have d4 : (si + lg == p.now + 1) = true := by simpa using h4
          have HE := hd_ (show L.set k ⟨4, wd, lg, cl, 0, qu⟩ = stepTo (lateF p.now) p.ships (k + 1) by rw [<- HNX.out, HF.out, if_pos ⟨rfl, by omega⟩])
          clear HNX HSM HF hlies hoth h4
          have hog2 := own_gone (w := wr) (x := 4) (y := 0) ho' (show k < L.length by rw [hll]; exact hlt)
          rw [hgk] at hog2
          dsimp only at hog2
          rw [HE.out] at hog2
          have hll2 := step_len (lateF p.now) p.ships (k + 1)
          rw [hll2] at hog2
          have HO := hd_ (World.ownsRow.alloc hog2 (.cells #[.int .i64 3, .int .i64 wd, .int .i64 lg, .int .i64 cl, .int .i64 si, .int .i64 qu] 61))
          have HPX := hd_ (((hP.beside ⟨b, k * 6, none⟩ (.int .i64 4) (by simpa using hne)).beside ⟨b, k * 6 + 4, none⟩ (.int .i64 0) (by simpa using hne)).alloc (.cells #[.int .i64 3, .int .i64 wd, .int .i64 lg, .int .i64 cl, .int .i64 si, .int .i64 qu] 61))
          have HZX := hd_ (((hZ.beside ⟨b, k * 6, none⟩ (.int .i64 4) (by simp; omega)).beside ⟨b, k * 6 + 4, none⟩ (.int .i64 0) (by simp; omega)).alloc (.cells #[.int .i64 3, .int .i64 wd, .int .i64 lg, .int .i64 cl, .int .i64 si, .int .i64 qu] 61))
          have HBX := hd_ ((((hB.setCell (p := ⟨b, k * 6, none⟩) (by simp; omega) (.int .i64 4)).setCell (p := ⟨b, k * 6 + 4, none⟩) (by simp; omega) (.int .i64 0)).alloc (by have := hB.size; simpa [World.setCell] using this) (.cells #[.int .i64 3, .int .i64 wd, .int .i64 lg, .int .i64 cl, .int .i64 si, .int .i64 qu] 61)).drew)
          clear hog2 HPA HZA HBA HOA
          go_wp2_with fail
          go_region
          all_goals
            go_wp2_with fail
            go_roundw
            case rel => exact ⟨k + 1, by omega, by go_num, HO.out, HPX.out, HZX.out, HBX.out⟩
            case measure => simp [intOf] <;> omega
        · have d4 : (si + lg == p.now + 1) = false := by simpa using h4
          have HE := hd_ (show stepTo (lateF p.now) p.ships (k + 1) = L from HSM.out (by rw [HF.out, if_neg (fun h => h4 (by omega))]))
          clear HNX HSM HF hlies hoth h4
          go_wp2_with fail
          go_roundw
          case rel => exact ⟨k + 1, by omega, by go_num, by rw [HE.out, <- hll]; exact HOA.out, HPA.out, HZA.out, HBA.out⟩
          case measure => simp [intOf] <;> omega
      · have d3 : (st == 3) = false := by simpa using h3
        have HE := hd_ (show stepTo (lateF p.now) p.ships (k + 1) = L from HSM.out (by rw [HF.out, if_neg (fun h => h3 h.1)]))
        clear HNX HSM HF hlies hoth
        go_wp2_with fail
        go_roundw
        case rel => exact ⟨k + 1, by omega, by go_num, by rw [HE.out, <- hll]; exact HOA.out, HPA.out, HZA.out, HBA.out⟩
        case measure => simp [intOf] <;> omega
    · obtain rfl : k = p.ships.length := by omega
      go_wp2_with (first
        | (refine wLP (p := { p with now := p.now + 1 }) (A := A2) (c := c2) rfl rfl (by first | rfl | simp [aE, aP]) hP ?_)
        | (refine wSP rfl rfl (by first | rfl | simp [aE, aP]) (by first | rfl | simp [aE, aP]) hZ ?_; intro w4 hZ4 hr4))
      refine bodyPost_ret (results_port2 rfl _ _ (w.heap.size + 1) rfl hZ4) rfl ?_
      have ho5 := own_one ho hr4 (by omega)
      rw [<- HLS.out] at ho5 hll
      have e : portA (laterL p) A2 c2 = portA { p with now := p.now + 1 } A2 c2 := portA_ships { p with now := p.now + 1 } (laterL p).ships A2 c2 hll
      have ho6 : OwnK w4 (w.heap.size + 2) (.slice A2 (laterL p).ships.length c2) (laterL p).ships := by rw [hll]; exact ho5
      refine ⟨A2, c2, ?_, Sl.of_own ho6, ownK_cap ho6, hB.trans (hr4.below (n := w.heap.size) (by omega)), fun _ => (ownK_fr ho6).mono (by omega)⟩
      dsimp only
      rw [e]; rfl
theorem who_ships (p : Port) (plan : List Int) : whoTo p plan p.ships.length = whoL p plan := by
  unfold whoTo whoL
  refine List.filter_congr fun i hi => ?_
  rw [decide_eq_true (List.mem_range.1 hi), Bool.true_and]
def RetDueC (p : Port) (plan : List Int) (w : World) (e : Ending) (w' : World) : Prop :=
  ∃ A c B d, e = .returned (.tuple #[.agg (portA (dueL p plan) A c), .slice B (whoL p plan).length d]) /\ InP w' (dueL p plan) A /\ (dueL p plan).ships.length <= c /\ Sl w' 1 B (whoL p plan).length ((natsI (whoL p plan)).map (Value.int .i64)) /\ Below w.heap.size w w' /\ Fr w.heap.size A
set_option maxRecDepth 100000 in
theorem refDue_any (p : Port) (A : Option Addr) (c : Nat) (plan : List Int) (B : Option Addr) (d : Nat) (w : World) (hg : PWf p) (hlen : p.ships.length * 48 <= 140737488355328) (hin : InP w p A)
    (hpl : plan.length * 8 <= 140737488355328) (hsl : Sl w 1 B plan.length (plan.map (Value.int .i64))) :
    Calls Tryz.prog 69 #[.agg (portA p A c), .slice B plan.length d] w (RetDueC p plan w) := by
  have hn2 := hg.now
  have HGD := hd_ hg
  have HLS := hd_ (due_ships p plan p.ships.length (Nat.le_refl _))
  have HWA := hd_ (who_ships p plan)
  clear hg
  simp only [portA]
  go_enter Tryz.func69, Tryz.ntmps69
  have hP0 : PortAt ((w.alloc (.cells (portA p A c) 36)).alloc (.cells (portA Port.zero none 0) 36)) w.heap.size p A c := (PortAt.new w p A c).alloc _
  have hZ0 : PortAt ((w.alloc (.cells (portA p A c) 36)).alloc (.cells (portA Port.zero none 0) 36)) (w.heap.size + 1) Port.zero none 0 := by
    have := PortAt.new (w.alloc (.cells (portA p A c) 36)) Port.zero none 0
    simpa using this
  have hB0 : Below w.heap.size w ((w.alloc (.cells (portA p A c) 36)).alloc (.cells (portA Port.zero none 0) 36)) := ((Below.refl _ _).alloc (Nat.le_refl _) _).alloc (by simp) _
  have hs0 : ((w.alloc (.cells (portA p A c) 36)).alloc (.cells (portA Port.zero none 0) 36)).heap.size = w.heap.size + 2 := by simp
  obtain ⟨W0, hW0⟩ : ∃ W0, W0 = ((w.alloc (.cells (portA p A c) 36)).alloc (.cells (portA Port.zero none 0) 36)) := ⟨_, rfl⟩
  rw [<- hW0] at hP0 hZ0 hB0 hs0
  rw [zeroA] at hW0
  simp only [portA] at hW0
  have HW0 := hd_ hW0
  clear hW0
  go_upto_region 1 with (fail)
  rw [<- HW0.out]
  clear HW0
  go_upto_region 2 with (first
    | (refine wLP rfl rfl (by first | rfl | simp [aE, aP]) hP0 ?_)
    | (go_at_call 44; refine (copyP_any p A c _ (Sl.below hin hB0) (by unfold maxLen; omega) hlen).mono ?_; rintro e w2 ⟨A2, c2, rfl, ho2, hb2⟩; have hP2 := hP0.below hb2 (by rw [hs0]; omega))
    | (refine wSP (p := p) (A := A) (c := c) (q := p) (B := A2) (d := c2) rfl rfl (by first | rfl | simp [aE, aP]) (by first | rfl | simp [aE, aP]) hP2 ?_; intro w3 hP3 hr3))
  have hs2 := hb2.size
  rw [hs0] at hs2 ho2
  have hZ2 := hZ0.below hb2 (by rw [hs0]; omega)
  have hB2 := bG_ hB0 hb2
  have hZ3 := hZ2.one hr3 (by omega)
  have hB3 := hB2.trans (hr3.below (n := w.heap.size) (Nat.le_refl _))
  have ho3 : OwnK w3 (w.heap.size + 2) (.slice A2 p.ships.length c2) p.ships := own_one ho2 hr3 (by omega)
  clear hP0 hZ0 hB0 hb2 hs0 hP2 hZ2 hB2 ho2
  have hz0 := step_zero (dueF p plan) p.ships
  have hsz3 := hr3.size
  clear hr3
  have hbl3 : ∀ x, (Value.slice A2 p.ships.length c2).ownBlock = some x -> x < w3.heap.size := fun x hx => by
    rcases ho3.2 with ⟨hv, _⟩ | ⟨gg, cap, cur, hv, _, hh, _⟩
    · rw [hv] at hx; cases hx
    · rw [hv] at hx; simp only [Value.ownBlock, Option.some.injEq] at hx
      have := (Array.getElem?_eq_some_iff.1 hh).1
      omega
  have hw3 : w.heap.size + 2 <= w3.heap.size := by omega
  have q1 := hP3.ships
  go_wp2_with fail
  go_loopw [13, 6] (fun i v wr => ∃ k : Nat, k <= p.ships.length /\ i = .int .i64 k /\ OwnK wr (w.heap.size + 2) (.slice A2 p.ships.length c2) (stepTo (dueF p plan) p.ships k) /\ OwnI wr w3.heap.size v (natsI (whoTo p plan k)) /\ PortAt wr w.heap.size p A2 c2 /\ PortAt wr (w.heap.size + 1) Port.zero none 0 /\ Below w.heap.size w wr /\ w3.heap.size <= wr.heap.size) (fun i _ _ => p.ships.length - (intOf i).toNat)
  case atStart => exact ⟨0, Nat.zero_le _, rfl, by rw [hz0]; exact ho3, OwnI.nil _ _, hP3, hZ3, hB3, Nat.le_refl _⟩
  case round =>
    clear hP3 hZ3 hB3 ho3 hz0 hsz3 q1
    obtain ⟨k, hk, rfl, ho, hown, hP, hZ, hB, hsz⟩ := hrel
    have q0 := hP.now
    have q1 := hP.ships
    have hll := step_len (dueF p plan) p.ships k
    have hwl := who_len p plan k
    have hnl := nIl (whoTo p plan k)
    by_cases hkn : k < p.ships.length
    · have HD := hd_ (show isDue p plan k = (decide (k < plan.length) && decide (plan.getD k (-1) = p.now) && decide ((p.ship k).state = 1)) from rfl)
      have HWY := hd_ (fun h => @who_yes p plan k h)
      have HWN := hd_ (@who_no p plan k)
      have HSM := hd_ (fun e => step_same (dueF p plan) p.ships k e)
      have HF := hd_ (show dueF p plan k (p.ship k) = if isDue p plan k = true then { p.ship k with state := 3, since := p.now } else p.ship k from rfl)
      have HNX := hd_ (step_next (dueF p plan) p.ships k hkn)
      have hgk := step_get (dueF p plan) p.ships k k hkn
      rw [if_neg (Nat.lt_irrefl k)] at hgk
      change (stepTo (dueF p plan) p.ships k).getD k Ship.zero = p.ship k at hgk
      generalize stepTo (dueF p plan) p.ships k = L at *
      have ho' : OwnK wr (w.heap.size + 2) (.slice A2 L.length c2) L := by rw [hll]; exact ho
      have hP' : PortAt wr w.heap.size { p with ships := L } A2 c2 := by
        unfold PortAt; rw [portA_ships p L A2 c2 hll]; exact hP
      have hog' : (Value.slice A2 L.length c2).ownBlock ≠ some w.heap.size := fun e => by have := oBk ho' _ e; omega
      obtain ⟨b, hA2, _, _⟩ := ownK_at ho' (by rw [hll]; omega)
      obtain ⟨_, F⟩ := found (p := { p with ships := L }) hP' ho' hog' (by show k < L.length; rw [hll]; exact hkn) hA2
      subst hA2
      have hbb : b < w3.heap.size := hbl3 b rfl
      have hpk : ({ p with ships := L } : Port).ship k = p.ship k := hgk
      have e0 := F.cells 0 (by omega)
      have e4 := F.cells 4 (by omega)
      rw [hpk] at e0 e4
      rw [Nat.add_zero] at e0
      have i0 := F.ice (k * 6)
      have i4 := F.ice (k * 6 + 4)
      have hFb := F.base
      have hne := F.ne
      clear F hpk hog' hP'
      rw [show p.ships.getD k Ship.zero = p.ship k from rfl] at HNX HSM
      generalize p.ship k = x at *
      obtain ⟨st, wd, lg, cl, si, qu⟩ := x
      simp only [shipV] at e0 e4
      change wr.cell? _ = some (.int .i64 st) at e0
      change wr.cell? _ = some (.int .i64 si) at e4
      dsimp only at HD HF
      by_cases hlt : k < plan.length
      · obtain ⟨b3, off3, hA3, hbl, hc3⟩ := ints_at (l := plan) (Sl.below hsl hB) (by omega)
        subst hA3
        have e3 := hc3 k hlt
        clear hc3
        have hd : plan.getD k 0 = plan.getD k (-1) := by
          rw [List.getD_eq_getElem?_getD, List.getD_eq_getElem?_getD, List.getElem?_eq_getElem hlt]; rfl
        rw [hd] at e3
        clear hd
        generalize plan.getD k (-1) = t at *
        have dk : decide ((k : Int) < (plan.length : Int)) = true := by simp; omega
        by_cases ht : t = p.now
        · have dt : (t == p.now) = true := by simpa using ht
          by_cases h1 : st = 1
          · have d1 : (st == 1) = true := by simpa using h1
            have hdue : isDue p plan k = true := by rw [HD.out, decide_eq_true hlt, decide_eq_true ht, decide_eq_true h1]; rfl
            have HE := hd_ (show L.set k ⟨3, wd, lg, cl, p.now, qu⟩ = stepTo (dueF p plan) p.ships (k + 1) by rw [<- HNX.out, HF.out, if_pos hdue])
            have HW := hd_ (HWY.out hkn hdue)
            clear HNX HSM HF HWY HWN HD hdue
            go_wp2_with fail
            go_quiet (fail)
            go_wp2_with fail
            go_region
            have hog2 := own_gone (w := wr.drewN (nq + 1)) (x := 3) (y := p.now) (show OwnK (wr.drewN (nq + 1)) _ _ _ from ho') (show k < L.length by rw [hll]; exact hkn)
            rw [hgk] at hog2
            dsimp only at hog2
            rw [HE.out] at hog2
            have hll2 := step_len (dueF p plan) p.ships (k + 1)
            rw [hll2] at hog2
            have hP5 := (((hP.drewN (nq + 1)).beside ⟨b, k * 6, none⟩ (.int .i64 3) (by simpa using hne)).beside ⟨b, k * 6 + 4, none⟩ (.int .i64 p.now) (by simpa using hne))
            have hZ5 := (((hZ.drewN (nq + 1)).beside ⟨b, k * 6, none⟩ (.int .i64 3) (by simp; omega)).beside ⟨b, k * 6 + 4, none⟩ (.int .i64 p.now) (by simp; omega))
            have hB5 := (((bdN hB (nq + 1)).setCell (p := ⟨b, k * 6, none⟩) (by simp; omega) (.int .i64 3)).setCell (p := ⟨b, k * 6 + 4, none⟩) (by simp; omega) (.int .i64 p.now))
            have hown5 : OwnI (((wr.drewN (nq + 1)).setCell ⟨b, k * 6, none⟩ (.int .i64 3)).setCell ⟨b, k * 6 + 4, none⟩ (.int .i64 p.now)) w3.heap.size _ (natsI (whoTo p plan k)) := own_one (own_one (show (wr.drewN (nq + 1)).ownsRow w3.heap.size _ _ _ _ _ from hown) (OneRow.of_cell (wr.drewN (nq + 1)) ⟨b, k * 6, none⟩ (.int .i64 3)) hbb) (OneRow.of_cell ((wr.drewN (nq + 1)).setCell ⟨b, k * 6, none⟩ (.int .i64 3)) ⟨b, k * 6 + 4, none⟩ (.int .i64 p.now)) hbb
            have hO5 : OwnK (((wr.drewN (nq + 1)).setCell ⟨b, k * 6, none⟩ (.int .i64 3)).setCell ⟨b, k * 6 + 4, none⟩ (.int .i64 p.now)) (w.heap.size + 2) (.slice (some ⟨b, 0, none⟩) p.ships.length c2) (stepTo (dueF p plan) p.ships (k + 1)) := hog2
            have hs5 : (((wr.drewN (nq + 1)).setCell ⟨b, k * 6, none⟩ (.int .i64 3)).setCell ⟨b, k * 6 + 4, none⟩ (.int .i64 p.now)).heap.size = wr.heap.size := by simp [World.setCell]
            generalize ((wr.drewN (nq + 1)).setCell ⟨b, k * 6, none⟩ (.int .i64 3)).setCell ⟨b, k * 6 + 4, none⟩ (.int .i64 p.now) = w5 at *
            have hs6 : w3.heap.size <= w5.heap.size := by omega
            clear hs5
            have ho6 := hown5.alloc (.cells #[.int .i64 k] 3)
            have hh := heap_alloc_new w5 (.cells #[.int .i64 k] 3)
            clear hP hZ hB hog2 e0 e4 i0 i4 q0 q1
            go_wp2_with (at_builtin; refine wpList_append_intB rfl _ _ rfl w3.heap.size _ _ rfl ho6 w5.heap.size 1 k rfl hh (by rw [hnl]; omega) (by simp; omega) ?_; intro v' w' ho7 hg')
            go_roundw
            case rel =>
              refine ⟨k + 1, by omega, by go_num, own_grow (hO5.alloc _) hg' (fun x hx e => ?_), by rw [HW.out, natsI_snoc]; exact ho7, ?_, ?_, grown_below (hB5.alloc hB5.size _) hg' ho6 (by omega) (by simp; have := hB5.size; omega), Nat.le_trans (by simp; omega) hg'.size⟩
              · simp only [Value.ownBlock, Option.some.injEq] at hx
                have := oBk ho6 _ e.symm
                omega
              · exact (hg'.block _ (by have := hP5.lt; simp; omega) (fun e => by have := oBk ho6 _ e.symm; omega)).trans (hP5.alloc _)
              · exact (hg'.block _ (by have := hZ5.lt; simp; omega) (fun e => by have := oBk ho6 _ e.symm; omega)).trans (hZ5.alloc _)
            case measure => simp [intOf] <;> omega
          · have d1 : (st == 1) = false := by simpa using h1
            have hdue : isDue p plan k = false := by rw [HD.out, decide_eq_false h1]; simp
            have HE := hd_ (show stepTo (dueF p plan) p.ships (k + 1) = L from HSM.out (fun _ => by rw [HF.out, hdue]; rfl))
            have HW := hd_ (HWN.out (fun h => by rw [hdue] at h; cases h.2))
            clear HNX HSM HF HWY HWN HD hdue
            go_wp2_with fail
            go_quiet (fail)
            go_wp2_with fail
            go_roundw
            case rel => exact ⟨k + 1, by omega, by go_num, by rw [HE.out]; exact ho, by rw [HW.out]; exact hown, hP.drewN _, hZ.drewN _, bdN hB _, hsz⟩
            case measure => simp [intOf] <;> omega
        · have dt : (t == p.now) = false := by simpa using ht
          have hdue : isDue p plan k = false := by rw [HD.out, decide_eq_false ht]; simp
          have HE := hd_ (show stepTo (dueF p plan) p.ships (k + 1) = L from HSM.out (fun _ => by rw [HF.out, hdue]; rfl))
          have HW := hd_ (HWN.out (fun h => by rw [hdue] at h; cases h.2))
          clear HNX HSM HF HWY HWN HD hdue
          go_wp2_with fail
          go_quiet (fail)
          go_wp2_with fail
          go_roundw
          case rel => exact ⟨k + 1, by omega, by go_num, by rw [HE.out]; exact ho, by rw [HW.out]; exact hown, hP.drewN _, hZ.drewN _, bdN hB _, hsz⟩
          case measure => simp [intOf] <;> omega
      · have dk : decide ((k : Int) < (plan.length : Int)) = false := by simp; omega
        have hdue : isDue p plan k = false := by rw [HD.out, decide_eq_false hlt]; simp
        have HE := hd_ (show stepTo (dueF p plan) p.ships (k + 1) = L from HSM.out (fun _ => by rw [HF.out, hdue]; rfl))
        have HW := hd_ (HWN.out (fun h => by rw [hdue] at h; cases h.2))
        clear HNX HSM HF HWY HWN HD hdue
        go_wp2_with fail
        go_quiet (fail)
        go_wp2_with fail
        go_roundw
        case rel => exact ⟨k + 1, by omega, by go_num, by rw [HE.out]; exact ho, by rw [HW.out]; exact hown, hP.drewN _, hZ.drewN _, bdN hB _, hsz⟩
        case measure => simp [intOf] <;> omega
    · obtain rfl : k = p.ships.length := by omega
      obtain ⟨B5, d5, hv⟩ := own_form hown
      subst hv
      have hwa := HWA.out
      rw [hwa] at hown hnl
      rw [hwa, hnl]
      go_wp2_with (first
        | (refine wLP (p := p) (A := A2) (c := c2) rfl rfl (by first | rfl | simp [aE, aP]) hP ?_)
        | (refine wSP rfl rfl (by first | rfl | simp [aE, aP]) (by first | rfl | simp [aE, aP]) hZ ?_; intro w4 hZ4 hr4))
      refine bodyPost_ret (results_port2 rfl _ _ (w.heap.size + 1) rfl hZ4) rfl ?_
      have ho5 := own_one ho hr4 (by omega)
      have hown4 := own_one hown hr4 (by omega)
      have hB6 := hB.trans (hr4.below (n := w.heap.size) (by omega))
      rw [<- HLS.out] at ho5
      have hl5 : (dueL p plan).ships.length = p.ships.length := by rw [HLS.out, step_len]
      have ho6 : OwnK w4 (w.heap.size + 2) (.slice A2 (dueL p plan).ships.length c2) (dueL p plan).ships := by rw [hl5]; exact ho5
      refine ⟨A2, c2, B5, d5, ?_, Sl.of_own ho6, ownK_cap ho6, ?_, hB6, (ownK_fr ho6).mono (by omega)⟩
      · have e : portA (dueL p plan) A2 c2 = portA p A2 c2 := portA_ships p (dueL p plan).ships A2 c2 hl5
        rw [e]; rfl
      · have := Sl.of_own hown4
        rw [hnl] at this
        exact this
end Go.Proofs.YtifmdkcpbajdcabGreatDoor
