/- Walks: what telling makes of a good port, for the orders about one that waits; who is ahead. -/
import Derived.Test.YtifmdkcpbajdcabGreatDoorTellR
import Derived.Test.YtifmdkcpbajdcabGreatDoorTellQ
import Derived.BigQuiet
import Derived.Deep.LoopGhost
set_option linter.unusedVariables false
set_option linter.unusedSimpArgs false
set_option maxHeartbeats 16000000
namespace Go.Proofs.YtifmdkcpbajdcabGreatDoor
open Go.RowKit Go.Proofs Plain
open Go.Lib renaming hid -> hd_
theorem tellOk_ranks {p : Port} (hg : PGood p) {o : Order} (hk : o.kind = 1 \/ o.kind = 2 \/ o.kind = 3 \/ o.kind = 5) : TellOk p o := by
  obtain ⟨kd, a, b, d⟩ := o
  dsimp only at hk
  intro A c g base w hP ho hog hb hw
  rcases hk with rfl | rfl | rfl | rfl
  · exact tell_come_any p A c g base a b d w hP ho hog hb hw hg.toFair
  · exact tell_leave p A c g base a b d w hP ho hog hb hw hg.len
  · exact tell_hold p A c g base a b d w hP ho hog hb hw hg.len
  · exact tell_change p A c g base a b d w hP ho hog hb hw hg.len hg.toFair
theorem told {p q : Port} {o : Order} {n : Int} (h : PGood p) (hk : o.kind = 1 \/ o.kind = 2 \/ o.kind = 3 \/ o.kind = 5) (ht : tellL p o = (q, n, 0)) :
    p.ships.length <= q.ships.length /\ q.ships.length <= p.ships.length + 1 /\ (o.kind = 1 -> n = p.ships.length /\ q.ships.length = p.ships.length + 1) /\ (o.kind ≠ 1 -> 0 <= o.a /\ o.a.toNat < p.ships.length /\ q.ships.length = p.ships.length) := by
  unfold tellL at ht
  split at ht
  · rename_i he
    split at ht
    · unfold tell1 at ht he
      rcases hk with h1 | h1 | h1 | h1
      · simp only [h1, if_true] at ht he
        split at ht
        · rename_i hr
          rw [if_pos hr] at he
          split at ht
          · rename_i hf; rw [if_pos hf] at he; simp at he
          · simp only [Prod.mk.injEq, and_true] at ht
            obtain ⟨rfl, rfl⟩ := ht
            refine ⟨by simp [Port.come], by simp [Port.come], fun _ => ⟨rfl, by simp [Port.come]⟩, fun hh => absurd h1 hh⟩
        · rename_i hr; rw [if_neg hr] at he; simp at he
      · simp only [h1, if_true, show ¬ ((2 : Int) = 1) by decide, if_false] at ht he
        split at ht
        · rename_i hs
          obtain ⟨s1, s2, _⟩ := shipE_ok hs
          simp only [Prod.mk.injEq, and_true] at ht
          obtain ⟨rfl, rfl⟩ := ht
          refine ⟨by simp [Port.setShip], by simp [Port.setShip], fun hh => by omega, fun _ => ⟨s1, s2, by simp [Port.setShip]⟩⟩
        · rename_i hs; rw [if_neg hs] at he; exact absurd he hs
      · simp only [h1, if_true, show ¬ ((3 : Int) = 1) by decide, show ¬ ((3 : Int) = 2) by decide, if_false] at ht he
        split at ht
        · rename_i hs
          obtain ⟨s1, s2, _⟩ := shipE_ok hs
          simp only [Prod.mk.injEq, and_true] at ht
          obtain ⟨rfl, rfl⟩ := ht
          refine ⟨by simp [Port.setShip], by simp [Port.setShip], fun hh => by omega, fun _ => ⟨s1, s2, by simp [Port.setShip]⟩⟩
        · rename_i hs; rw [if_neg hs] at he; exact absurd he hs
      · simp only [h1, if_true, show ¬ ((5 : Int) = 1) by decide, show ¬ ((5 : Int) = 2) by decide, show ¬ ((5 : Int) = 3) by decide, show ¬ ((5 : Int) = 4) by decide, if_false] at ht he
        split at ht
        · rename_i hs
          rw [if_pos hs] at he
          obtain ⟨s1, s2, _⟩ := shipE_ok hs
          split at ht
          · rename_i hr; rw [if_pos hr] at he; simp at he
          · simp only [Prod.mk.injEq, and_true] at ht
            obtain ⟨rfl, rfl⟩ := ht
            refine ⟨by simp [Port.setShip], by simp [Port.setShip], fun hh => by omega, fun _ => ⟨s1, s2, by simp [Port.setShip]⟩⟩
        · rename_i hs; rw [if_neg hs] at he; exact absurd he hs
    · simp at ht
  · rename_i he; simp only [Prod.mk.injEq] at ht; exact absurd ht.2.2 he
theorem PortAt.kept {w : World} {g c : Nat} {p : Port} {A : Option Addr} (h : PortAt w g p A c) {k : Nat} (hk : k < 4) :
    w.cell? ⟨g, 2 + k * 3, none⟩ = some (.int .i64 (p.keep k).wide) /\ w.cell? ⟨g, 2 + k * 3 + 1, none⟩ = some (.int .i64 (p.keep k).fr) /\ w.cell? ⟨g, 2 + k * 3 + 2, none⟩ = some (.int .i64 (p.keep k).to) := by
  rcases (by omega : k = 0 \/ k = 1 \/ k = 2 \/ k = 3) with rfl | rfl | rfl | rfl
  · exact ⟨h.cell 2, h.cell 3, h.cell 4⟩
  · exact ⟨h.cell 5, h.cell 6, h.cell 7⟩
  · exact ⟨h.cell 8, h.cell 9, h.cell 10⟩
  · exact ⟨h.cell 11, h.cell 12, h.cell 13⟩
theorem PortAt.put3 {w : World} {g c : Nat} {p : Port} {A : Option Addr} (h : PortAt w g p A c) (h4 : p.kept.length = 4) {k : Nat} (hk : k < 4) (x : Kept) :
    PortAt (((w.setCell ⟨g, 2 + k * 3, none⟩ (.int .i64 x.wide)).setCell ⟨g, 2 + k * 3 + 1, none⟩ (.int .i64 x.fr)).setCell ⟨g, 2 + k * 3 + 2, none⟩ (.int .i64 x.to)) g (p.setKeep k x) A c := by
  obtain ⟨now, ships, kept, shut, next⟩ := p
  dsimp only at h4
  match kept, h4 with
  | [k0, k1, k2, k3], _ =>
    rcases (by omega : k = 0 \/ k = 1 \/ k = 2 \/ k = 3) with rfl | rfl | rfl | rfl
    · exact PortAt.put (PortAt.put (PortAt.put h 2 (.int .i64 x.wide) ⟨now, ships, [⟨x.wide, k0.fr, k0.to⟩, k1, k2, k3], shut, next⟩ A c rfl) 3 (.int .i64 x.fr) ⟨now, ships, [⟨x.wide, x.fr, k0.to⟩, k1, k2, k3], shut, next⟩ A c rfl) 4 (.int .i64 x.to) _ A c rfl
    · exact PortAt.put (PortAt.put (PortAt.put h 5 (.int .i64 x.wide) ⟨now, ships, [k0, ⟨x.wide, k1.fr, k1.to⟩, k2, k3], shut, next⟩ A c rfl) 6 (.int .i64 x.fr) ⟨now, ships, [k0, ⟨x.wide, x.fr, k1.to⟩, k2, k3], shut, next⟩ A c rfl) 7 (.int .i64 x.to) _ A c rfl
    · exact PortAt.put (PortAt.put (PortAt.put h 8 (.int .i64 x.wide) ⟨now, ships, [k0, k1, ⟨x.wide, k2.fr, k2.to⟩, k3], shut, next⟩ A c rfl) 9 (.int .i64 x.fr) ⟨now, ships, [k0, k1, ⟨x.wide, x.fr, k2.to⟩, k3], shut, next⟩ A c rfl) 10 (.int .i64 x.to) _ A c rfl
    · exact PortAt.put (PortAt.put (PortAt.put h 11 (.int .i64 x.wide) ⟨now, ships, [k0, k1, k2, ⟨x.wide, k3.fr, k3.to⟩], shut, next⟩ A c rfl) 12 (.int .i64 x.fr) ⟨now, ships, [k0, k1, k2, ⟨x.wide, x.fr, k3.to⟩], shut, next⟩ A c rfl) 13 (.int .i64 x.to) _ A c rfl
theorem own_cell {w : World} {base size n g : Nat} {T : TypeId} {v : Value} {xs : List Value} (h : w.ownsRow base T size v n xs) (hg : v.ownBlock ≠ some g) (j : Nat) (u : Value) : (w.setCell ⟨g, j, none⟩ u).ownsRow base T size v n xs :=
  own_one' h (OneRow.of_cell w ⟨g, j, none⟩ u) hg
theorem ret_told {g base : Nat} {r : Port × Int × Int} {w w' : World} {q : Port} {n e : Int} {A : Option Addr} {c : Nat} (hr : r = (q, n, e)) (hP : PortAt w' g q A c) (ho : OwnK w' base (.slice A q.ships.length c) q.ships)
    (hg : (Value.slice A q.ships.length c).ownBlock ≠ some g) (hb : Below base w w') : RetTell g base r w (.returned (.tuple #[.int .i64 n, .int .i64 e])) w' := by
  subst hr; exact ⟨A, c, rfl, hP, ho, hg, hb⟩
set_option maxRecDepth 100000 in
theorem tell_shut (p : Port) (A : Option Addr) (c g base : Nat) (oa ob oc : Int) (w : World) (hP : PortAt w g p A c) (hown : OwnK w base (.slice A p.ships.length c) p.ships) (hog : (Value.slice A p.ships.length c).ownBlock ≠ some g) (hgb : base <= g) (hbs : base <= w.heap.size) :
    Calls Tryz.prog 55 #[.pointer (some ⟨g, 0, none⟩), .agg (orA ⟨8, oa, ob, oc⟩)] w (RetTell g base (tell1 p ⟨8, oa, ob, oc⟩) w) := by
  have HT := hd_ (show tell1 p ⟨8, oa, ob, oc⟩ = if 0 <= oa /\ oa <= 16 then ({ p with shut := oa }, 0, 0) else (p, 0, 2) from rfl)
  have hP2 := hP.alloc (.cells (orA ⟨8, oa, ob, oc⟩) 41)
  have ho2 : OwnK (w.alloc (.cells (orA ⟨8, oa, ob, oc⟩) 41)) base (.slice A p.ships.length c) p.ships := World.ownsRow.alloc hown _
  have hb2 : Below base w (w.alloc (.cells (orA ⟨8, oa, ob, oc⟩) 41)) := ((Below.refl _ _).alloc (Nat.le_refl _) _).mono hbs
  have q1 := hP2.shut
  have q2 := hP2.frozen 14
  have hglt := hP.lt
  cases ha : inB oa 0 16 with
  | true =>
    have HR := hd_ (show tell1 p ⟨8, oa, ob, oc⟩ = ({ p with shut := oa }, 0, 0) by rw [HT.out, if_pos ((inB_iff _ _ _).1 ha)])
    have HPP := hd_ hP
    have HOO := hd_ hown
    have HA := hd_ ha
    clear HT ha hP hown
    simp only [orA] at *
    go_enter Tryz.func55, Tryz.ntmps55
    go_wp2_with (go_at_call 82; (with_reducible refine (psI _ HA.out).mono ?_); rintro e w' ⟨rfl, rfl⟩)
    go_ret2
    exact ret_told HR.out ((PortAt.put HPP.out 14 (.int .i64 oa) { p with shut := oa } A c rfl).alloc _) (World.ownsRow.alloc (own_cell HOO.out hog 14 _) _) hog (((Below.refl base w).setCell (p := ⟨g, 14, none⟩) hgb _).alloc (by simpa [World.setCell] using hbs) _)
  | false =>
    have HR := hd_ (show tell1 p ⟨8, oa, ob, oc⟩ = (p, 0, 2) by rw [HT.out, if_neg (fun h => by rw [(inB_iff _ _ _).2 h] at ha; cases ha)])
    have HA := hd_ ha
    clear HT ha hP hown
    simp only [orA] at *
    go_enter Tryz.func55, Tryz.ntmps55
    go_wp2_with (go_at_call 82; (with_reducible refine (psI _ HA.out).mono ?_); rintro e w' ⟨rfl, rfl⟩)
    go_ret2
    exact ret_told HR.out hP2 ho2 hog hb2
set_option maxRecDepth 100000 in
theorem tell_form (p : Port) (A : Option Addr) (c g base : Nat) (o : Order) (w : World) (hP : PortAt w g p A c) (hown : OwnK w base (.slice A p.ships.length c) p.ships) (hog : (Value.slice A p.ships.length c).ownBlock ≠ some g) (hgb : base <= g) (hbs : base <= w.heap.size)
    (h1 : o.kind ≠ 1) (h2 : o.kind ≠ 2) (h3 : o.kind ≠ 3) (h4 : o.kind ≠ 4) (h5 : o.kind ≠ 5) (h6 : o.kind ≠ 6) (h7 : o.kind ≠ 7) (h8 : o.kind ≠ 8) :
    Calls Tryz.prog 55 #[.pointer (some ⟨g, 0, none⟩), .agg (orA o)] w (RetTell g base (tell1 p o) w) := by
  have HR := hd_ (show tell1 p o = (p, 0, 1) by unfold tell1; rw [if_neg h1, if_neg h2, if_neg h3, if_neg h4, if_neg h5, if_neg h6, if_neg h7, if_neg h8])
  have hP2 := hP.alloc (.cells (orA o) 41)
  have ho2 : OwnK (w.alloc (.cells (orA o) 41)) base (.slice A p.ships.length c) p.ships := World.ownsRow.alloc hown _
  have hb2 : Below base w (w.alloc (.cells (orA o) 41)) := ((Below.refl _ _).alloc (Nat.le_refl _) _).mono hbs
  obtain ⟨kd, oa, ob, oc⟩ := o
  dsimp only at *
  have e1 : (kd == 1) = false := by simpa using h1
  have e2 : (kd == 2) = false := by simpa using h2
  have e3 : (kd == 3) = false := by simpa using h3
  have e4 : (kd == 4) = false := by simpa using h4
  have e5 : (kd == 5) = false := by simpa using h5
  have e6 : (kd == 6) = false := by simpa using h6
  have e7 : (kd == 7) = false := by simpa using h7
  have e8 : (kd == 8) = false := by simpa using h8
  simp only [orA] at *
  clear hP hown
  go_enter Tryz.func55, Tryz.ntmps55
  go_wp2_with fail
  go_ret2
  exact ret_told HR.out hP2 ho2 hog hb2
set_option maxRecDepth 100000 in
theorem tell_drop (p : Port) (A : Option Addr) (c g base : Nat) (oa ob oc : Int) (w : World) (hP : PortAt w g p A c) (hown : OwnK w base (.slice A p.ships.length c) p.ships) (hog : (Value.slice A p.ships.length c).ownBlock ≠ some g) (hgb : base <= g) (hbs : base <= w.heap.size)
    (hf : Plain.Fair p) :
    Calls Tryz.prog 55 #[.pointer (some ⟨g, 0, none⟩), .agg (orA ⟨7, oa, ob, oc⟩)] w (RetTell g base (tell1 p ⟨7, oa, ob, oc⟩) w) := by
  have HT := hd_ (show tell1 p ⟨7, oa, ob, oc⟩ = if 0 <= oa /\ oa < 4 /\ (p.keep oa.toNat).wide ≠ 0 then (p.setKeep oa.toNat Kept.zero, 0, 0) else (p, 0, 3) from rfl)
  have hP2 := hP.alloc (.cells (orA ⟨7, oa, ob, oc⟩) 41)
  have ho2 : OwnK (w.alloc (.cells (orA ⟨7, oa, ob, oc⟩) 41)) base (.slice A p.ships.length c) p.ships := World.ownsRow.alloc hown _
  have hb2 : Below base w (w.alloc (.cells (orA ⟨7, oa, ob, oc⟩) 41)) := ((Below.refl _ _).alloc (Nat.le_refl _) _).mono hbs
  have hglt := hP.lt
  have H4 := hd_ hf.four
  by_cases h1 : oa < 0
  · have d1 : decide (oa < 0) = true := by simpa using h1
    have HR := hd_ (show tell1 p ⟨7, oa, ob, oc⟩ = (p, 0, 3) by rw [HT.out, if_neg (by omega)])
    clear HT hP hown
    simp only [orA] at *
    go_enter Tryz.func55, Tryz.ntmps55
    go_wp2_with fail
    go_quiet (fail)
    go_wp2_with fail
    go_ret2
    exact ret_told HR.out (hP2.drewN _) ho2 hog (bdN hb2 _)
  · by_cases h2 : 4 <= oa
    · have d1 : decide (oa < 0) = false := by simpa using h1
      have d2 : decide (oa >= 4) = true := by simpa using h2
      have HR := hd_ (show tell1 p ⟨7, oa, ob, oc⟩ = (p, 0, 3) by rw [HT.out, if_neg (by omega)])
      clear HT hP hown
      simp only [orA] at *
      go_enter Tryz.func55, Tryz.ntmps55
      go_wp2_with fail
      go_quiet (fail)
      go_wp2_with fail
      go_ret2
      exact ret_told HR.out (hP2.drewN _) ho2 hog (bdN hb2 _)
    · obtain ⟨k, rfl⟩ : ∃ k : Nat, oa = k := ⟨oa.toNat, by omega⟩
      have hk : k < 4 := by omega
      have d1 : decide ((k : Int) < 0) = false := by simp <;> omega
      have d2 : decide ((k : Int) >= 4) = false := by simp <;> omega
      obtain ⟨k1, k2, k3⟩ := hP2.kept hk
      have f1 := hP2.frozen (2 + k * 3)
      have f2 := hP2.frozen (2 + k * 3 + 1)
      have f3 := hP2.frozen (2 + k * 3 + 2)
      by_cases h3 : (p.keep k).wide = 0
      · have HR := hd_ (show tell1 p ⟨7, (k : Int), ob, oc⟩ = (p, 0, 3) by rw [HT.out, Int.toNat_natCast, if_neg (fun h => h.2.2 h3)])
        rw [h3] at k1
        clear HT hP hown h3
        simp only [orA] at *
        go_enter Tryz.func55, Tryz.ntmps55
        go_wp2_with fail
        go_quiet (fail)
        go_wp2_with fail
        go_ret2
        exact ret_told HR.out (hP2.drewN _) ho2 hog (bdN hb2 _)
      · have HR := hd_ (show tell1 p ⟨7, (k : Int), ob, oc⟩ = (p.setKeep k Kept.zero, 0, 0) by rw [HT.out, Int.toNat_natCast, if_pos ⟨by omega, by omega, h3⟩])
        have d3 : ((p.keep k).wide == 0) = false := by simpa using h3
        clear HT hP hown h3
        simp only [orA] at *
        go_enter Tryz.func55, Tryz.ntmps55
        go_wp2_with fail
        go_quiet (fail)
        go_wp2_with fail
        go_region
        all_goals
          go_wp2_with fail
          go_ret2
          exact ret_told HR.out (PortAt.put3 (x := Kept.zero) (show PortAt _ g p A c from hP2) H4.out hk) (own_cell (own_cell (own_cell (show OwnK _ base _ _ from ho2) hog _ _) hog _ _) hog _ _) hog
            ((((show Below base w _ from bdN (bdN hb2 _) 1).setCell (p := ⟨g, _, none⟩) hgb _).setCell (p := ⟨g, _, none⟩) hgb _).setCell (p := ⟨g, _, none⟩) hgb _)
def keepR (p : Port) (f : Option Nat) (k : Kept) : Port × Int × Int := match f with | some i => (p.setKeep i k, i, 0) | none => (p, 0, 5)
theorem keep_stored {p : Port} {A : Option Addr} {c g base k : Nat} {w wr : World} (hP : PortAt wr g p A c) (hO : OwnK wr base (.slice A p.ships.length c) p.ships) (hB : Below base w wr) (hog : (Value.slice A p.ships.length c).ownBlock ≠ some g) (hgb : base <= g) (hbs : base <= wr.heap.size)
    (h4 : p.kept.length = 4) (hk : k < 4) (x : Kept) (o : Obj) :
    PortAt ((((wr.setCell ⟨g, 2 + k * 3, none⟩ (.int .i64 x.wide)).setCell ⟨g, 2 + k * 3 + 1, none⟩ (.int .i64 x.fr)).setCell ⟨g, 2 + k * 3 + 2, none⟩ (.int .i64 x.to)).alloc o).drew g (p.setKeep k x) A c /\
    OwnK ((((wr.setCell ⟨g, 2 + k * 3, none⟩ (.int .i64 x.wide)).setCell ⟨g, 2 + k * 3 + 1, none⟩ (.int .i64 x.fr)).setCell ⟨g, 2 + k * 3 + 2, none⟩ (.int .i64 x.to)).alloc o).drew base (.slice A p.ships.length c) p.ships /\
    Below base w ((((wr.setCell ⟨g, 2 + k * 3, none⟩ (.int .i64 x.wide)).setCell ⟨g, 2 + k * 3 + 1, none⟩ (.int .i64 x.fr)).setCell ⟨g, 2 + k * 3 + 2, none⟩ (.int .i64 x.to)).alloc o).drew := by
  refine ⟨?_, ?_, ?_⟩
  · exact (PortAt.put3 hP h4 hk x).alloc o
  · exact World.ownsRow.alloc (own_cell (own_cell (own_cell hO hog _ _) hog _ _) hog _ _) o
  · exact bdN ((((hB.setCell (p := ⟨g, _, none⟩) hgb _).setCell (p := ⟨g, _, none⟩) hgb _).setCell (p := ⟨g, _, none⟩) hgb _).alloc (by simpa [World.setCell] using hbs) o) 1
theorem freeKeep_some {p : Port} {k : Nat} (hk : k < 4) (h : (p.keep k).wide = 0) (ha : ∀ j, j < k -> (p.keep j).wide ≠ 0) : freeKeep p = some k := by
  unfold freeKeep
  rw [List.find?_range_eq_some]
  exact ⟨by simpa using h, by simpa using hk, fun j hj => by simpa using ha j hj⟩
theorem freeKeep_none {p : Port} (ha : ∀ j, j < 4 -> (p.keep j).wide ≠ 0) : freeKeep p = none := by
  unfold freeKeep
  rw [List.find?_eq_none]
  intro j hj
  simpa using ha j (by simpa using hj)
set_option maxRecDepth 100000 in
theorem keep_any (p : Port) (A : Option Addr) (c g base : Nat) (oa ob oc : Int) (w : World) (hP : PortAt w g p A c) (hown : OwnK w base (.slice A p.ships.length c) p.ships) (hog : (Value.slice A p.ships.length c).ownBlock ≠ some g) (hgb : base <= g) (hbs : base <= w.heap.size)
    (hf : Plain.Fair p) :
    Calls Tryz.prog 85 #[.pointer (some ⟨g, 0, none⟩), .agg (orA ⟨6, oa, ob, oc⟩)] w (RetTell g base (tell1 p ⟨6, oa, ob, oc⟩) w) := by
  have HT := hd_ (show tell1 p ⟨6, oa, ob, oc⟩ = if (1 <= oa /\ oa <= 16) /\ p.now <= ob /\ ob < oc /\ oc <= 300 then keepR p (freeKeep p) ⟨oa, ob, oc⟩ else (p, 0, 2) from rfl)
  have hP2 := hP.alloc (.cells (orA ⟨6, oa, ob, oc⟩) 41)
  have ho2 : OwnK (w.alloc (.cells (orA ⟨6, oa, ob, oc⟩) 41)) base (.slice A p.ships.length c) p.ships := World.ownsRow.alloc hown _
  have hb2 : Below base w (w.alloc (.cells (orA ⟨6, oa, ob, oc⟩) 41)) := ((Below.refl _ _).alloc (Nat.le_refl _) _).mono hbs
  have hO2 := heap_alloc_new w (.cells (orA ⟨6, oa, ob, oc⟩) 41)
  have hglt := hP.lt
  have hnow := hP2.now
  have H4 := hd_ hf.four
  cases ha : inB oa 1 16 with
  | false =>
    have HR := hd_ (show tell1 p ⟨6, oa, ob, oc⟩ = (p, 0, 2) by rw [HT.out, if_neg (fun h => by rw [(inB_iff _ _ _).2 h.1] at ha; cases ha)])
    have HA := hd_ ha
    clear HT ha hP hown hO2
    simp only [orA] at *
    go_enter Tryz.func85, Tryz.ntmps85
    go_wp2_with fail
    go_quiet ((go_at_call 82; exact Calls.quiet_of_same (psI _ HA.out)))
    go_wp2_with fail
    go_ret2
    exact ret_told HR.out (hP2.drewN _) ho2 hog (bdN hb2 _)
  | true =>
    have ha' := (inB_iff _ _ _).1 ha
    by_cases h1 : ob < p.now
    · have d1 : decide (ob < p.now) = true := by simpa using h1
      have HR := hd_ (show tell1 p ⟨6, oa, ob, oc⟩ = (p, 0, 2) by rw [HT.out, if_neg (by omega)])
      have HA := hd_ ha
      clear HT ha ha' hP hown hO2
      simp only [orA] at *
      go_enter Tryz.func85, Tryz.ntmps85
      go_wp2_with fail
      go_quiet ((go_at_call 82; exact Calls.quiet_of_same (psI _ HA.out)))
      go_wp2_with fail
      go_ret2
      exact ret_told HR.out (hP2.drewN _) ho2 hog (bdN hb2 _)
    · by_cases h2 : oc <= ob
      · have d1 : decide (ob < p.now) = false := by simpa using h1
        have d2 : decide (ob >= oc) = true := by simpa using h2
        have HR := hd_ (show tell1 p ⟨6, oa, ob, oc⟩ = (p, 0, 2) by rw [HT.out, if_neg (by omega)])
        have HA := hd_ ha
        clear HT ha ha' hP hown hO2
        simp only [orA] at *
        go_enter Tryz.func85, Tryz.ntmps85
        go_wp2_with fail
        go_quiet ((go_at_call 82; exact Calls.quiet_of_same (psI _ HA.out)))
        go_wp2_with fail
        go_ret2
        exact ret_told HR.out (hP2.drewN _) ho2 hog (bdN hb2 _)
      · by_cases h3 : 300 < oc
        · have d1 : decide (ob < p.now) = false := by simpa using h1
          have d2 : decide (ob >= oc) = false := by simpa using h2
          have d3 : decide (oc > 300) = true := by simpa using h3
          have HR := hd_ (show tell1 p ⟨6, oa, ob, oc⟩ = (p, 0, 2) by rw [HT.out, if_neg (by omega)])
          have HA := hd_ ha
          clear HT ha ha' hP hown hO2
          simp only [orA] at *
          go_enter Tryz.func85, Tryz.ntmps85
          go_wp2_with fail
          go_quiet ((go_at_call 82; exact Calls.quiet_of_same (psI _ HA.out)))
          go_wp2_with fail
          go_ret2
          exact ret_told HR.out (hP2.drewN _) ho2 hog (bdN hb2 _)
        · have d1 : decide (ob < p.now) = false := by simpa using h1
          have d2 : decide (ob >= oc) = false := by simpa using h2
          have d3 : decide (oc > 300) = false := by simpa using h3
          have HR := hd_ (show tell1 p ⟨6, oa, ob, oc⟩ = keepR p (freeKeep p) ⟨oa, ob, oc⟩ by rw [HT.out, if_pos (by omega)])
          have HA := hd_ ha
          clear HT ha ha' hP hown
          have hk0 := hP2.cell 2
          have hk1 := hP2.cell 3
          have hk2 := hP2.cell 4
          have hk3 := hP2.cell 5
          have hk4 := hP2.cell 6
          have hk5 := hP2.cell 7
          have hk6 := hP2.cell 8
          have hk7 := hP2.cell 9
          have hk8 := hP2.cell 10
          have hk9 := hP2.cell 11
          have hk10 := hP2.cell 12
          have hk11 := hP2.cell 13
          simp only [portA] at hk0 hk1 hk2 hk3 hk4 hk5 hk6 hk7 hk8 hk9 hk10 hk11
          simp only [orA] at *
          go_enter Tryz.func85, Tryz.ntmps85
          go_wp2_with fail
          go_quiet ((go_at_call 82; exact Calls.quiet_of_same (psI _ HA.out)))
          go_wp2_with fail
          go_loopw [37] (fun i wr => ∃ k : Nat, k <= 4 /\ i = .int .i64 k /\ PortAt wr g p A c /\ OwnK wr base (.slice A p.ships.length c) p.ships /\ Below base w wr /\ wr.heap[w.heap.size]? = some (.cells #[.int .i64 6, .int .i64 oa, .int .i64 ob, .int .i64 oc] 41 (0, 0)) /\ ∀ j, j < k -> (p.keep j).wide ≠ 0) (fun i _ => 4 - (intOf i).toNat)
          case atStart => exact ⟨0, by omega, rfl, hP2.drewN _, ho2, bdN hb2 _, hO2, fun j hj => absurd hj (by omega)⟩
          case round =>
            clear hk0 hk1 hk2 hk3 hk4 hk5 hk6 hk7 hk8 hk9 hk10 hk11 hP2 ho2 hb2 hO2 hnow
            obtain ⟨k, hk, rfl, hP, hO, hB, hR, hall⟩ := hrel
            have hgl := hP.lt
            have hwl := (Array.getElem?_eq_some_iff.1 hR).1
            have o1 : wr.cell? ⟨w.heap.size, 1, none⟩ = some (.int .i64 oa) := cell_of_row _ _ 1 _ _ _ hR
            have o2 : wr.cell? ⟨w.heap.size, 2, none⟩ = some (.int .i64 ob) := cell_of_row _ _ 2 _ _ _ hR
            have o3 : wr.cell? ⟨w.heap.size, 3, none⟩ = some (.int .i64 oc) := cell_of_row _ _ 3 _ _ _ hR
            have HAL := hd_ hall
            clear hall
            by_cases hlt : k < 4
            · obtain ⟨k1, k2, k3⟩ := hP.kept hlt
              have f1 := hP.frozen (2 + k * 3)
              have f2 := hP.frozen (2 + k * 3 + 1)
              have f3 := hP.frozen (2 + k * 3 + 2)
              by_cases h0 : (p.keep k).wide = 0
              · have HF := hd_ (show tell1 p ⟨6, oa, ob, oc⟩ = (p.setKeep k ⟨oa, ob, oc⟩, (k : Int), 0) by rw [HR.out, freeKeep_some hlt h0 HAL.out]; rfl)
                have d4 : ((p.keep k).wide == 0) = true := by simpa using h0
                clear h0
                go_wp2_with (refine wIK (p := p) (k := k) rfl rfl rfl rfl hlt ?_)
                go_region
                all_goals
                  go_wp2_with fail
                  go_ret2
                  obtain ⟨y1, y2, y3⟩ := keep_stored hP hO hB hog hgb (Nat.le_trans hbs hB.size) H4.out hlt ⟨oa, ob, oc⟩ (.cells #[.int .i64 (p.keep k).wide, .int .i64 (p.keep k).fr, .int .i64 (p.keep k).to] 33)
                  exact ret_told HF.out y1 y2 hog y3
              · have HNX := hd_ (show ∀ j, j < k + 1 -> (p.keep j).wide ≠ 0 from fun j hj => by
                  rcases (by omega : j < k \/ j = k) with h | rfl
                  · exact HAL.out j h
                  · exact h0)
                have d4 : ((p.keep k).wide == 0) = false := by simpa using h0
                clear h0
                go_wp2_with (refine wIK (p := p) (k := k) rfl rfl rfl rfl hlt ?_)
                go_roundw
                case rel => exact ⟨k + 1, by omega, by go_num, hP.alloc _, World.ownsRow.alloc hO _, hB.alloc (Nat.le_trans hbs hB.size) _, (Below.heap_alloc wr _ _ hwl).trans hR, HNX.out⟩
                case measure => simp [intOf] <;> omega
            · obtain rfl : k = 4 := by omega
              have HF := hd_ (show tell1 p ⟨6, oa, ob, oc⟩ = (p, 0, 5) by rw [HR.out, freeKeep_none HAL.out]; rfl)
              go_wp2_with fail
              go_ret2
              exact ret_told HF.out hP hO hog hB
set_option maxRecDepth 100000 in
theorem tell_keep (p : Port) (A : Option Addr) (c g base : Nat) (oa ob oc : Int) (w : World) (hP : PortAt w g p A c) (hown : OwnK w base (.slice A p.ships.length c) p.ships) (hog : (Value.slice A p.ships.length c).ownBlock ≠ some g) (hgb : base <= g) (hbs : base <= w.heap.size)
    (hf : Plain.Fair p) :
    Calls Tryz.prog 55 #[.pointer (some ⟨g, 0, none⟩), .agg (orA ⟨6, oa, ob, oc⟩)] w (RetTell g base (tell1 p ⟨6, oa, ob, oc⟩) w) := by
  have hP2 := hP.alloc (.cells (orA ⟨6, oa, ob, oc⟩) 41)
  have ho2 : OwnK (w.alloc (.cells (orA ⟨6, oa, ob, oc⟩) 41)) base (.slice A p.ships.length c) p.ships := World.ownsRow.alloc hown _
  have hb2 : Below base w (w.alloc (.cells (orA ⟨6, oa, ob, oc⟩) 41)) := ((Below.refl _ _).alloc (Nat.le_refl _) _).mono hbs
  have HK := hd_ (keep_any p A c g base oa ob oc _ hP2 ho2 hog hgb (by simp <;> omega) hf)
  clear hP hown hP2 ho2 hf
  simp only [orA] at *
  go_enter Tryz.func55, Tryz.ntmps55
  go_wp2_with fail
  refine HK.out.mono ?_
  rintro e w' ⟨A', c', rfl, h1, h2, h3, h4⟩
  go_wp2_with fail
  go_ret2
  exact ⟨A', c', rfl, h1, h2, h3, hb2.trans h4⟩
theorem tellOk_all {p : Port} (hg : PGood p) (o : Order) : TellOk p o := by
  intro A c g base w hP ho hog hb hw
  by_cases h1 : o.kind = 1
  · exact tellOk_ranks hg (.inl h1) A c g base w hP ho hog hb hw
  by_cases h2 : o.kind = 2
  · exact tellOk_ranks hg (.inr (.inl h2)) A c g base w hP ho hog hb hw
  by_cases h3 : o.kind = 3
  · exact tellOk_ranks hg (.inr (.inr (.inl h3))) A c g base w hP ho hog hb hw
  by_cases h5 : o.kind = 5
  · exact tellOk_ranks hg (.inr (.inr (.inr h5))) A c g base w hP ho hog hb hw
  by_cases h4 : o.kind = 4
  · obtain ⟨kd, a, b, d⟩ := o
    dsimp only at h4
    subst h4
    exact tell_free p A c g base a b d w hP ho hog hb hw hg.len
  by_cases h6 : o.kind = 6
  · obtain ⟨kd, a, b, d⟩ := o
    dsimp only at h6
    subst h6
    exact tell_keep p A c g base a b d w hP ho hog hb hw hg.toFair
  by_cases h7 : o.kind = 7
  · obtain ⟨kd, a, b, d⟩ := o
    dsimp only at h7
    subst h7
    exact tell_drop p A c g base a b d w hP ho hog hb hw hg.toFair
  by_cases h8 : o.kind = 8
  · obtain ⟨kd, a, b, d⟩ := o
    dsimp only at h8
    subst h8
    exact tell_shut p A c g base a b d w hP ho hog hb hw
  exact tell_form p A c g base o w hP ho hog hb hw h1 h2 h3 h4 h5 h6 h7 h8
end Go.Proofs.YtifmdkcpbajdcabGreatDoor
