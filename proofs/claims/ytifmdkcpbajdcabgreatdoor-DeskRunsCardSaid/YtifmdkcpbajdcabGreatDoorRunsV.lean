/- Walks: desk.Run answers as the document's desk does. -/
import Derived.Test.YtifmdkcpbajdcabGreatDoorRunW
import Derived.Test.YtifmdkcpbajdcabGreatDoorRDeskT
set_option linter.unusedVariables false
set_option linter.unusedSimpArgs false
namespace Go.Proofs.YtifmdkcpbajdcabGreatDoor
open Go.RowKit Go.Proofs Plain
open List renaming getElem_toArray -> lsA, getElem_cons_zero -> lsB, getElem_cons_succ -> lsC, setIfInBounds_toArray -> lsD, set_cons_zero -> lsE, set_cons_succ -> lsF
open Go.Act renaming put -> aP
open Go.Lib renaming hid -> hd_
theorem newR (w : World) (G : Nat -> Prop) (hg : G w.heap.size) (hG : ∀ b, G b -> b < w.heap.size + 1) : RDeskAt (w.alloc (.cells #[.int .i64 0, .slice none 0 0, .int .i64 0, .int .i64 0, .int .i64 0, .int .i64 0, .int .i64 0, .int .i64 0, .int .i64 0, .int .i64 0, .int .i64 0, .int .i64 0, .int .i64 0, .int .i64 0, .int .i64 0, .int .i64 0, .pointer none, .int .i64 0] 54)) G w.heap.size Desk.new :=
  ⟨hg, fun b hb => by rw [World.size_alloc]; exact hG b hb, none, 0, none, .int .i64 0, .int .i64 0, .int .i64 0, .int .i64 0, .int .i64 0, .int .i64 0, .int .i64 0, .int .i64 0, .int .i64 0, .int .i64 0, .int .i64 0, .int .i64 0, .int .i64 0, .int .i64 0, rfl, heap_alloc_new w _, Nat.le_refl _, ⟨Sl.zero _ _ _, fun h => absurd h (by decide)⟩, rfl⟩
theorem acts_lt (l : List Txt) (k : Nat) (hk : k < 250) : (playL Desk.new (l.take k)).acts < 250 := by
  have := play_le (l.take k) Desk.new
  rw [List.length_take] at this
  have h0 : Desk.new.acts = 0 := rfl
  omega
theorem str_infoR : (Tryz.prog.info? 9).map (fun i => (i.zero, i.size, i.bytes)) = some (some (.string ByteArray.empty), 1, 16) := by kernel_rfl
theorem strs_one (l : List ByteArray) : ∀ u ∈ strV l, u.oneCell' = true := fun u hu => by
  obtain ⟨s, _, rfl⟩ := List.mem_map.1 hu
  rfl
theorem eq_replyT (a b : Int) (w : World) : (Op.equalIn 10000 29 (.agg #[.int .i64 a, .int .i64 b]) (.agg #[.int .i64 a, .int .i64 b])).run Tryz.prog w = .ok true w := by simp [go_sem]
attribute [local go_sem] eq_replyT
theorem repCells_get (l : List (Int × Int)) : ∀ j, j < l.length -> (repCells l)[j * 2]? = some (.int .i64 (l.getD j (0, 0)).1) /\ (repCells l)[j * 2 + 1]? = some (.int .i64 (l.getD j (0, 0)).2) := by
  induction l with
  | nil => intro j hj; simp at hj
  | cons r l ih =>
    intro j hj
    cases j with
    | zero => exact ⟨rfl, rfl⟩
    | succ j =>
      obtain ⟨h1, h2⟩ := ih j (by simpa using hj)
      rw [show (j + 1) * 2 = j * 2 + 2 by omega, show j * 2 + 2 + 1 = j * 2 + 1 + 2 by omega]
      exact ⟨by simpa [repCells] using h1, by simpa [repCells] using h2⟩
theorem rep_at {w : World} {A : Option Addr} {l : List (Int × Int)} (h : Sl w 2 A l.length (repCells l)) (hl : 0 < l.length) :
    ∃ b off, A = some ⟨b, off, none⟩ /\ ∀ j, j < l.length -> w.cell? ⟨b, off + j * 2, none⟩ = some (.int .i64 (l.getD j (0, 0)).1) /\ w.cell? ⟨b, off + j * 2 + 1, none⟩ = some (.int .i64 (l.getD j (0, 0)).2) := by
  obtain ⟨b, off, e, hc⟩ := h.2 (by omega)
  refine ⟨b, off, e, fun j hj => ?_⟩
  obtain ⟨h1, h2⟩ := repCells_get l j hj
  refine ⟨(hc (j * 2) (by omega)).trans h1, ?_⟩
  have := (hc (j * 2 + 1) (by omega)).trans h2
  rwa [show off + (j * 2 + 1) = off + j * 2 + 1 by omega] at this
theorem run_get (s : Txt) : ∀ (l : List Txt) (k : Nat) (d : Desk), l[k]? = some s -> (runL d l).getD k (0, 0) = (tellD (playL d (l.take k)) s).2 := by
  intro l
  induction l with
  | nil => intro k d h; simp at h
  | cons x l ih =>
    intro k d h
    cases k with
    | zero => simp at h; subst h; rfl
    | succ k =>
      have := ih k (tellD d x).1 (by simpa using h)
      simpa [runL, playL] using this
set_option maxRecDepth 100000 in
theorem run_full (l : List ByteArray) (A : Option Addr) (c : Nat) (w : World) (h : 250 < l.length) :
    Calls Tryz.prog 18 #[.slice A l.length c] w fun e w' => e = .returned (.tuple #[.slice none 0 0, .int .i64 5]) /\ Below w.heap.size w w' := by
  have t0 : decide ((l.length : Int) > 250) = true := by rw [decide_eq_true_iff]; omega
  have t1 : decide ((250 : Int) < (l.length : Int)) = true := by rw [decide_eq_true_iff]; omega
  have t2 : decide (250 < l.length) = true := by rw [decide_eq_true_iff]; omega
  go_enter Tryz.func18, Tryz.ntmps18
  go_wp2_with fail
  go_ret2
  exact ⟨rfl, Below.refl _ _⟩
theorem run_ask (Bt : Nat) (w : World) (hL : LineAt Bt w) : Calls Tryz.prog 18 #[.slice (some ⟨w.heap.size, 0, none⟩) 1 1] (w.alloc (.cells #[.string ⟨#[63]⟩] 9)) fun e w' => (∃ A c, e = .returned (.tuple #[.slice A 1 c, .int .i64 0])) /\ Below w.heap.size w w' := by
  have hb : Below w.heap.size w (w.alloc (.cells #[.string ⟨#[63]⟩] 9)) := (Below.refl _ _).alloc (Nat.le_refl _) _
  have h := run_any Bt [⟨#[63]⟩] (some ⟨w.heap.size, 0, none⟩) 1 _ (hL.below (hb.mono hL.size)) ⟨rfl, fun _ => ⟨w.heap.size, 0, rfl, fun q hq => by
    obtain rfl : q = 0 := by simpa using hq
    exact cell_of_row _ _ 0 _ _ _ (heap_alloc_new _ _)⟩⟩ (by decide) (fun s hs => by simp at hs; subst hs; decide)
  exact h.mono fun e w' ⟨A, c, he, _, hb2⟩ => ⟨⟨A, c, he⟩, bG_ hb hb2⟩
set_option maxRecDepth 100000 in
set_option maxHeartbeats 16000000 in
theorem deskRuns_walk (Bt : Nat) (l : List ByteArray) (A : Option Addr) (c : Nat) (w : World) (hL : LineAt Bt w) (hST : SpaceTab Bt w) (hsl : StrAt w A l) (hlen : l.length <= maxLen) (hroom : l.length * 16 <= 140737488355328) (hsz : ∀ s ∈ l, s.size <= maxLen) :
    Calls Tryz.prog 5 #[.slice A l.length c] w fun e w' => e = .returned (.bool true) /\ Below w.heap.size w w' := by
  have HL := hd_ hL
  have HST := hd_ hST
  have HSL := hd_ hsl
  have HSZ := hd_ hsz
  have HBT := hd_ hL.size
  have HRM := hd_ hroom
  have HLM := hd_ hlen
  clear hL hST hsl hsz hroom hlen
  obtain ⟨i0, hi0, hz0, hzs, hzb⟩ := info_parts str_infoR
  go_enter Tryz.func5, Tryz.ntmps5
  go_wp2_with (at_builtin; refine wpList_append_copy rfl _ _ 22 rfl w.heap.size 9 i0 _ 1 16 Tryz.underlying22 hi0 hz0 hzs hzb rfl (by decide) rfl A l.length c (strV l) rfl HSL.out (strs_one l) HLM.out HRM.out (Nat.le_refl _) ?_; intro v2 w2 ho2 hb2; obtain ⟨A2, c2, rfl⟩ := own_form ho2)
  clear hi0 hz0 hzs hzb
  by_cases h250 : 250 < l.length
  · have t0 : decide ((l.length : Int) > 250) = true := by rw [decide_eq_true_iff]; omega
    have t1 : decide ((250 : Int) < (l.length : Int)) = true := by rw [decide_eq_true_iff]; omega
    have t2 : decide (250 < l.length) = true := by rw [decide_eq_true_iff]; omega
    refine (run_full l A2 c2 w2 h250).mono ?_
    rintro e w3 ⟨rfl, hb3⟩
    have hB3 := bG_ hb2 hb3
    clear hb2 hb3 ho2
    go_wp2_with fail
    refine (run_ask Bt w3 (HL.out.below (hB3.mono HBT.out))).mono ?_
    rintro e w5 ⟨⟨A5, c5, rfl⟩, hb5⟩
    have hB5 := bG_ hB3 hb5
    clear hb5 hB3
    go_wp2_with fail
    go_ret
    exact ⟨rfl, hB5⟩
  · have t0 : decide ((l.length : Int) > 250) = false := by rw [decide_eq_false_iff_not]; omega
    have t1 : decide ((250 : Int) < (l.length : Int)) = false := by rw [decide_eq_false_iff_not]; omega
    have t2 : decide (250 < l.length) = false := by rw [decide_eq_false_iff_not]; omega
    have t3 : ((l.length : Int) != (l.length : Int)) = false := by simp
    have hr2 := run_any Bt l A2 c2 w2 (HL.out.below (hb2.mono HL.out.size)) (Sl.of_own ho2) (by omega) HSZ.out
    unfold RetRun at hr2
    rw [List.length_map] at hr2
    refine hr2.mono ?_
    rintro e w3 ⟨A3, c3, rfl, h3, hb3⟩
    have hB3 := bG_ hb2 hb3
    obtain ⟨R, hR⟩ : ∃ R, runL Desk.new (l.map (·.data.toList)) = R := ⟨_, rfl⟩
    rw [hR] at h3
    have HRL := hd_ (show R.length = l.length by rw [<- hR, run_len, List.length_map])
    have HRG := hd_ (fun k s => by rw [<- hR]; exact run_get s (l.map (·.data.toList)) k Desk.new : ∀ (k : Nat) (s : Txt), (l.map (·.data.toList))[k]? = some s -> R.getD k (0, 0) = (tellD (playL Desk.new ((l.map (·.data.toList)).take k)) s).2)
    clear hb2 hb3 ho2 hr2 hR
    go_wp2_with fail
    refine (run_ask Bt w3 (HL.out.below (hB3.mono HBT.out))).mono ?_
    rintro e w5 ⟨⟨A5, c5, rfl⟩, hb5⟩
    have HB5 := hd_ (bG_ hB3 hb5)
    have HS5 := hd_ (show Sl w5 2 A3 l.length (repCells R) from Sl.below h3 hb5)
    clear hb5 hB3 h3
    obtain ⟨W, hW⟩ : ∃ W, W = w5.alloc (.cells #[.int .i64 0, .slice none 0 0, .int .i64 0, .int .i64 0, .int .i64 0, .int .i64 0, .int .i64 0, .int .i64 0, .int .i64 0, .int .i64 0, .int .i64 0, .int .i64 0, .int .i64 0, .int .i64 0, .int .i64 0, .int .i64 0, .pointer none, .int .i64 0] 54) := ⟨_, rfl⟩
    have HD := hd_ (show RDeskAt W (fun b => b = w5.heap.size) w5.heap.size Desk.new from by
      rw [hW]; exact newR w5 _ rfl (fun b hb => by rw [hb]; exact Nat.lt_succ_self _))
    have HBW := hd_ (show Below w5.heap.size w5 W from by rw [hW]; exact (Below.refl _ _).alloc (Nat.le_refl _) _)
    go_upto_region 6 with (fail)
    rw [<- hW]
    clear hW
    have t4 : ((0 : Int) != 0) = false := by decide
    have t5 : ((1 : Int) != 1) = false := by decide
    go_wp2_with fail
    go_loopw [8] (fun x8 wr => ∃ k : Nat, k <= l.length /\ x8 = .int .i64 k /\ Below w5.heap.size w5 wr /\ RDeskAt wr (fun b => b = w5.heap.size) w5.heap.size (playL Desk.new ((l.map (·.data.toList)).take k))) (fun x8 _ => l.length - (intOf x8).toNat)
    case atStart => exact ⟨0, Nat.zero_le _, rfl, HBW.out, HD.out⟩
    case round =>
    clear HD HBW
    obtain ⟨k, hk, rfl, hB, hD⟩ := hrel
    have HB := hd_ (bG_ HB5.out hB)
    by_cases hlt : k < l.length
    · have hok := play_ok ((l.map (·.data.toList)).take k) new_ok
      have hac := acts_lt (l.map (·.data.toList)) k (by omega)
      obtain ⟨bl, offl, hA, hbl0, hcl⟩ := str_at HSL.out (by omega)
      subst hA
      have y0 : wr.cell? ⟨bl, offl + k, none⟩ = _ := (HB.out.cell (p := ⟨bl, offl + k, none⟩) hbl0).trans (hcl k hlt)
      have hsk : l[k]? = some (l.getD k ByteArray.empty) := by rw [List.getD_eq_getElem?_getD, List.getElem?_eq_getElem hlt]; rfl
      obtain ⟨s, hs⟩ : ∃ s, l.getD k ByteArray.empty = s := ⟨_, rfl⟩
      rw [hs] at y0 hsk
      have hs2 : (l.map (·.data.toList))[k]? = some s.data.toList := by rw [List.getElem?_map, hsk]; rfl
      have hpl := play_one _ k _ Desk.new hs2
      have hrg := HRG.out k _ hs2
      obtain ⟨d, hd⟩ : ∃ d, playL Desk.new ((l.map (·.data.toList)).take k) = d := ⟨_, rfl⟩
      rw [hd] at hpl hok hac hD hrg
      have hss := HSZ.out s (List.mem_of_getElem? hsk)
      have hbt5 : Bt <= w5.heap.size := Nat.le_trans HBT.out HB5.out.size
      have HR := hd_ (fun W hD hst hbt => rtellD_any Bt (fun b => b = w5.heap.size) w5.heap.size d s W hD hok hst hbt hbt5 hss hac)
      obtain ⟨b3, off3, hA3, hc3⟩ := rep_at (l := R) (w := w5) (by rw [HRL.out]; exact HS5.out) (by rw [HRL.out]; omega)
      subst hA3
      obtain ⟨d1, d2⟩ := hc3 k (by rw [HRL.out]; exact hlt)
      rw [hrg] at d1 d2
      obtain ⟨CC, hCC⟩ : ∃ CC, (tellD d s.data.toList).2.1 = CC := ⟨_, rfl⟩
      obtain ⟨NN, hNN⟩ : ∃ NN, (tellD d s.data.toList).2.2 = NN := ⟨_, rfl⟩
      obtain ⟨dn, hdn⟩ : ∃ dn, (tellD d s.data.toList).1 = dn := ⟨_, rfl⟩
      rw [hCC] at d1
      rw [hNN] at d2
      rw [hCC, hNN, hdn] at HR
      rw [hdn] at hpl
      have hb3 := World.block_lt_of_cell? w5 _ d1
      have z1 : wr.cell? ⟨b3, off3 + k * 2, none⟩ = some (.int .i64 CC) := (hB.cell (p := ⟨b3, off3 + k * 2, none⟩) hb3).trans d1
      have z2 : wr.cell? ⟨b3, off3 + k * 2 + 1, none⟩ = some (.int .i64 NN) := (hB.cell (p := ⟨b3, off3 + k * 2 + 1, none⟩) hb3).trans d2
      have hblr : bl < wr.heap.size := Nat.lt_of_lt_of_le hbl0 HB.out.size
      have hb3r : b3 < wr.heap.size := Nat.lt_of_lt_of_le hb3 hB.size
      have HPL := hd_ hpl
      have HDD := hd_ hD
      have HBB := hd_ hB
      clear hpl hok hac hD hd hsk hs2 hcl hs hCC hNN hdn hc3 hrg d1 d2 hB
      have yd : (wr.drew.cell? ⟨b3, off3 + k * 2, none⟩ = some (.int .i64 CC) /\ wr.drew.cell? ⟨b3, off3 + k * 2 + 1, none⟩ = some (.int .i64 NN)) /\ wr.drew.cell? ⟨bl, offl + k, none⟩ = some (.string s) := ⟨⟨z1, z2⟩, y0⟩
      go_wp2_with fail
      refine wRP (S := fun w' => w'.cell? ⟨b3, off3 + k * 2, none⟩ = some (.int .i64 CC) /\ w'.cell? ⟨b3, off3 + k * 2 + 1, none⟩ = some (.int .i64 NN) /\ w'.cell? ⟨bl, offl + k, none⟩ = some (.string s)) (.take 0 (.take 1 (.take 2 (.take 3 (.take 4 (.take 5 (.take 6 (.take 7 (.take 8 (.one 9 (.take 10 (.fin)))))))))))) (by kernel_rfl) (by kernel_rfl) ⟨yd.1.1, yd.1.2, yd.2⟩ ?_
      iterate 3
        refine pT_ (v := ?_) rfl (by rfl) (fun w' hw' => ?_) ?_
        rotate_left
        · go_simp; try with_reducible rfl
        try simp only [aP, lsA, lsB, lsC, lsD, lsE, lsF]
      refine pT_ (v := ?_) rfl (by rfl) (fun w' hw' => ?_) ?_
      rotate_left
      · obtain ⟨x0, x1, _⟩ := hw'
        go_simp; try with_reducible rfl
      try simp only [aP, lsA, lsB, lsC, lsD, lsE, lsF]
      iterate 4
        refine pT_ (v := ?_) rfl (by rfl) (fun w' hw' => ?_) ?_
        rotate_left
        · go_simp; try with_reducible rfl
        try simp only [aP, lsA, lsB, lsC, lsD, lsE, lsF]
      refine pT_ (v := ?_) rfl (by rfl) (fun w' hw' => ?_) ?_
      rotate_left
      · obtain ⟨_, _, x0⟩ := hw'
        go_simp; try with_reducible rfl
      try simp only [aP, lsA, lsB, lsC, lsD, lsE, lsF]
      refine pO_ rfl (by rfl) fun K hK => ?_
      go_simp
      go_at_call 19
      have hbd : Below wr.heap.size wr wr.drew := (Below.refl _ _).drew
      refine (HR.out _ (HDD.out.below hbd) (Lib.TabBelow.on HST.out ((bG_ HB.out hbd).mono HBT.out)) (Nat.le_trans HBT.out HB.out.size)).mono ?_
      rintro e2 w4 ⟨rfl, hd4, ht4⟩
      have hb4 : Below w5.heap.size wr w4 := (hbd.mono HBB.out.size).trans (ht4.below (Nat.le_refl _) HBB.out.size)
      have HN := hd_ (show Below w5.heap.size w5 w4 from HBB.out.trans hb4)
      have HND := hd_ hd4
      refine hK.out _ _ ⟨(hb4.cell (p := ⟨b3, off3 + k * 2, none⟩) hb3).trans z1, (hb4.cell (p := ⟨b3, off3 + k * 2 + 1, none⟩) hb3).trans z2, ((hb4.mono HB5.out.size).cell (p := ⟨bl, offl + k, none⟩) hbl0).trans y0⟩ ?_
      clear hK K hd4 ht4 hb4 z1 z2 y0 yd HR
      try simp only [aP, lsA, lsB, lsC, lsD, lsE, lsF]
      refine pT_ (v := ?_) rfl (by rfl) (fun w' hw' => ?_) ?_
      rotate_left
      · go_simp; try with_reducible rfl
      try simp only [aP, lsA, lsB, lsC, lsD, lsE, lsF]
      refine pD_ (NoPanic.normal ?_)
      go_wp2_with fail
      go_roundw
      case rel => exact ⟨k + 1, by omega, by go_num, HN.out, by rw [HPL.out]; exact HND.out⟩
      case measure => simp [intOf] <;> omega
    · obtain rfl : k = l.length := by omega
      go_wp2_with fail
      go_ret
      exact ⟨rfl, HB.out⟩
end Go.Proofs.YtifmdkcpbajdcabGreatDoor
