/- Walks: lines at a new desk, looked at behind each: Memory. -/
import Derived.Test.YtifmdkcpbajdcabGreatDoorDeskAl
set_option linter.unusedVariables false
set_option linter.unusedSimpArgs false
namespace Go.Proofs.YtifmdkcpbajdcabGreatDoor
open Go.RowKit Go.Proofs Plain

/-- What playing leaves. -/
def RetPlayMem (G0 M : Nat → Prop) (I : Nat → Nat → World → Prop) (l : List ByteArray) (w : World) (e : Ending) (w' : World) : Prop :=
  ∃ g, e = .returned (.tuple #[.pointer (some ⟨g, 0, none⟩), .bool true]) ∧ w.heap.size ≤ g ∧ DeskAt w' (GR G0 g) g (playL Desk.new ((l.map (·.data.toList)).take 80)) ∧ I g (min l.length 80) w' ∧ Kp M w w'
/-- What a look leaves. -/
def RetLookMem (M : Nat → Prop) (I : Nat → Nat → World → Prop) (g k : Nat) (w : World) (e : Ending) (w' : World) : Prop := e = .returned (.bool true) ∧ Kp M w w' ∧ I g k w'

set_option maxRecDepth 100000 in
set_option maxHeartbeats 16000000 in
theorem playMem_any (Bt B : Nat) (G0 M : Nat → Prop) (I : Nat → Nat → World → Prop) (l : List ByteArray) (A : Option Addr) (c : Nat) (kc : Nat) (w : World) (hL : LineAt Bt w) (hBt : Bt ≤ B) (hBw : B ≤ w.heap.size) (hsl : StrAt w A l) (hlow : ∀ b off, A = some ⟨b, off, none⟩ → 0 < l.length → b < B) (hlen : l.length ≤ maxLen)
    (hsz : ∀ s ∈ l, s.size ≤ maxLen) (hG : ∀ b, G0 b → B ≤ b ∧ b < w.heap.size) (hM : ∀ b, M b → G0 b)
    (hI0 : ∀ g w', Below w.heap.size w w' → w.heap.size ≤ g → g < w'.heap.size → I g 0 w')
    (hI : ∀ g k wa wb, w.heap.size ≤ g → I g k wa → Tn g wa wb → I g k wb)
    (hLook : ∀ g k s wr, w.heap.size ≤ g → k < 80 → l[k]? = some s → DeskAt wr (GR G0 g) g (playL Desk.new ((l.map (·.data.toList)).take (k + 1))) → DOk (playL Desk.new ((l.map (·.data.toList)).take k)) → LineAt Bt wr → I g k wr →
      Calls Tryz.prog 24 #[.pointer (some ⟨g, 0, none⟩), .string s, .agg #[.int .i64 (tellD (playL Desk.new ((l.map (·.data.toList)).take k)) s.data.toList).2.1, .int .i64 (tellD (playL Desk.new ((l.map (·.data.toList)).take k)) s.data.toList).2.2], .pointer (some ⟨kc, 0, none⟩)] wr (RetLookMem M I g (k + 1) wr)) :
    Calls Tryz.prog 9 #[.slice A l.length c, .func (.func 24) #[] #[.pointer (some ⟨kc, 0, none⟩)]] w (RetPlayMem G0 M I l w) := by
  unfold maxLen at hlen
  have HA := Lib.hid (alive_any Bt w hL)
  have HL := Lib.hid hL
  have HSL := Lib.hid hsl
  have HLW := Lib.hid hlow
  have HSZ := Lib.hid hsz
  have HG := Lib.hid hG
  have HM := Lib.hid hM
  have HI0 := Lib.hid hI0
  have HI := Lib.hid hI
  have HLK := Lib.hid hLook
  clear hL hsl hlow hsz hG hM hI0 hI hLook
  go_enter Tryz.func9, Tryz.ntmps9
  go_wp2_with fail
  refine HA.out.mono ?_
  rintro e w1 ⟨rfl, hb1⟩
  go_wp2_with fail
  refine (newD_any _).mono ?_
  rintro e w2 ⟨g, rfl, hg1, hb2, hg2, hD⟩
  have hB2 := below_go hb1 hb2
  have hgw : w.heap.size ≤ g := Nat.le_trans hb1.size hg1
  have hD2 : DeskAt w2 (GR G0 g) g Desk.new := hD _ (.inr rfl) fun b hb => by
    rcases hb with hb | hb
    · exact Nat.lt_of_lt_of_le (HG.out b hb).2 hB2.size
    · rw [hb]; exact hg2
  have hI2 := HI0.out g w2 hB2 hgw hg2
  have hK2 : Kp M w w2 := Kp.of_below hB2
  clear hD hb1 hb2 hg1 hg2 hB2 HI0 HA
  have HK2 := Lib.hid hK2
  have HD2 := Lib.hid hD2
  have HI2 := Lib.hid hI2
  clear hK2 hD2 hI2
  go_wp2_with fail
  go_loopw [7] (fun i wr => ∃ k : Nat, k ≤ l.length ∧ k ≤ 80 ∧ i = .int .i64 k ∧ DeskAt wr (GR G0 g) g (playL Desk.new ((l.map (·.data.toList)).take k)) ∧ I g k wr ∧ Kp M w wr) (fun i _ => 80 - (intOf i).toNat)
  case atStart => exact ⟨0, Nat.zero_le _, by omega, rfl, HD2.out, HI2.out, HK2.out⟩
  case round =>
    obtain ⟨k, hk, hk80, rfl, hDk, hIk, hKk⟩ := hrel
    clear HK2 HD2 HI2
    have hbw := hKk.below (n := B) (fun b hb => (HG.out b (HM.out b hb)).1) hBw
    by_cases hlt : k < l.length ∧ k < 80
    · obtain ⟨hlt1, hlt2⟩ := hlt
      obtain ⟨s, hs⟩ : ∃ s, l[k]? = some s := ⟨_, List.getElem?_eq_getElem hlt1⟩
      have hmem : s ∈ l := List.mem_of_getElem? hs
      obtain ⟨b, off, rfl, hbl, hcs⟩ := str_at HSL.out (by omega)
      have hbB : b < B := HLW.out b off rfl (by omega)
      have hx0 : w.cell? ⟨b, off + k, none⟩ = some (.string s) := by rw [hcs k hlt1, List.getD_eq_getElem?_getD, hs]; rfl
      have HX0 := Lib.hid hx0
      have hx : wr.cell? ⟨b, off + k, none⟩ = some (.string s) := (hbw.cell (p := ⟨b, off + k, none⟩) hbB).trans hx0
      have hLr := HL.out.below (hbw.mono hBt)
      have hok := play_ok ((l.map (·.data.toList)).take k) new_ok
      have hac := play_le ((l.map (·.data.toList)).take k) Desk.new
      have hts : (l.map (·.data.toList))[k]? = some s.data.toList := by rw [List.getElem?_map, hs]; rfl
      have HP1 := Lib.hid (play_one (l.map (·.data.toList)) k s.data.toList Desk.new hts)
      have hac2 : (playL Desk.new ((l.map (·.data.toList)).take k)).acts ≤ 1000 := by
        have e0 : Desk.new.acts = 0 := rfl
        rw [List.length_take, e0, Nat.zero_add] at hac
        have := Nat.min_le_left k (l.map (·.data.toList)).length
        omega
      have hT := tellD_any Bt (GR G0 g) g _ s wr hDk hok hLr (by omega) (HSZ.out s hmem) hac2
      have HLK2 := Lib.hid (fun wr h1 h3 h4 => HLK.out g k s wr hgw hlt2 hs h1 hok h3 h4)
      rw [HP1.out] at HLK2
      have HPX := HP1.out
      obtain ⟨dk, hdk⟩ : ∃ dk, playL Desk.new ((l.map (·.data.toList)).take k) = dk := ⟨_, rfl⟩
      rw [hdk] at hT HLK2 HPX
      obtain ⟨CC, hCC⟩ : ∃ CC, (tellD dk s.data.toList).2.1 = CC := ⟨_, rfl⟩
      obtain ⟨NN, hNN⟩ : ∃ NN, (tellD dk s.data.toList).2.2 = NN := ⟨_, rfl⟩
      obtain ⟨dn, hdn⟩ : ∃ dn, (tellD dk s.data.toList).1 = dn := ⟨_, rfl⟩
      rw [hCC, hNN, hdn] at hT HLK2
      rw [hdn] at HPX
      have HPN := Lib.hid HPX
      have HT := Lib.hid hT
      have HLR := Lib.hid hLr
      clear hDk hT hLr hok hac hts HP1 hdk hCC hNN hdn HPX hac2 hs hmem hcs hx0
      go_wp2_with fail
      refine HT.out.mono ?_
      rintro e w4 ⟨rfl, hD4, hT4⟩
      have hI4 := HI.out g k wr w4 hgw hIk hT4
      have hK4 := hKk.then_tn hT4 hgw
      have hI5 := HI.out g k w4 (w4.alloc (.cells #[.int .i64 CC, .int .i64 NN] 29)) hgw hI4 (Tn.of_below ((Below.refl _ _).alloc (Nat.le_refl _) _))
      have hb5 : Below w4.heap.size w4 (w4.alloc (.cells #[.int .i64 CC, .int .i64 NN] 29)) := (Below.refl _ _).alloc (Nat.le_refl _) _
      have hD5 := hD4.below hb5
      have hK5 : Kp M w (w4.alloc (.cells #[.int .i64 CC, .int .i64 NN] 29)) := hK4.trans (Kp.of_below hb5)
      have hR5 := RpAt.new w4 CC NN
      have hgl4 := hD4.lt
      clear hIk hT4 hI4 hK4 hD4 hb5 HT hKk hbw
      go_upto_region 8 with (fail)
      obtain ⟨kr, hkr⟩ : ∃ kr, w4.heap.size = kr := ⟨_, rfl⟩
      obtain ⟨wq, hwq⟩ : ∃ wq, w4.alloc (.cells #[.int .i64 CC, .int .i64 NN] 29) = wq := ⟨_, rfl⟩
      rw [hwq] at hI5 hD5 hK5 hR5
      rw [hwq]
      rw [hkr] at hR5 hgl4
      try rw [hkr]
      clear hwq hkr hx
      have hbq := hK5.below (n := B) (fun b hb => (HG.out b (HM.out b hb)).1) hBw
      have hLq := HL.out.below (hbq.mono hBt)
      have hkrw : w.heap.size ≤ kr := by omega
      have hS : ∀ w', Kp M wq w' → w'.cell? ⟨b, off + k, none⟩ = some (.string s) ∧ w'.cell? ⟨kr, 0, none⟩ = some (.int .i64 CC) ∧ w'.cell? ⟨kr, 1, none⟩ = some (.int .i64 NN) := fun w' h => by
        obtain ⟨b2, off2, e2, hb2, hc2⟩ := str_at HSL.out (by omega)
        injection e2 with e2
        injection e2 with e2 e3
        subst e2; subst e3
        have h1 : wq.cell? ⟨b, off + k, none⟩ = some (.string s) := (hbq.cell (p := ⟨b, off + k, none⟩) hbB).trans HX0.out
        have hb3 := h.below (n := B) (fun b hb => (HG.out b (HM.out b hb)).1) (Nat.le_trans hBw hK5.size)
        have hr := (h.block kr hR5.lt fun hm => by have := (HG.out kr (HM.out kr hm)).2; omega).trans hR5
        exact ⟨(hb3.cell (p := ⟨b, off + k, none⟩) hbB).trans h1, RpAt.cell0 hr, RpAt.cell1 hr⟩
      have HS := Lib.hid hS
      clear hS hbq
      refine wp_region_plans (S := fun w' => Kp M wq w') (.take 0 (.take 1 (.take 2 (.take 3 (.take 4 (.take 5 (.take 6 (.one 7 (.take 8 (.fin)))))))))) (by kernel_rfl) (by kernel_rfl) (Kp.refl wq).drew ?_
      refine plan_take (v := ?_) rfl (by rfl) (fun w' hw' => ?_) ?_
      rotate_left
      · go_simp; try with_reducible rfl
      try simp only [Act.put, List.getElem_toArray, List.getElem_cons_zero, List.getElem_cons_succ, List.setIfInBounds_toArray, List.set_cons_zero, List.set_cons_succ]
      refine plan_take (v := ?_) rfl (by rfl) (fun w' hw' => ?_) ?_
      rotate_left
      · go_simp; try with_reducible rfl
      try simp only [Act.put, List.getElem_toArray, List.getElem_cons_zero, List.getElem_cons_succ, List.setIfInBounds_toArray, List.set_cons_zero, List.set_cons_succ]
      refine plan_take (v := ?_) rfl (by rfl) (fun w' hw' => ?_) ?_
      rotate_left
      · go_simp; try with_reducible rfl
      try simp only [Act.put, List.getElem_toArray, List.getElem_cons_zero, List.getElem_cons_succ, List.setIfInBounds_toArray, List.set_cons_zero, List.set_cons_succ]
      refine plan_take (v := ?_) rfl (by rfl) (fun w' hw' => ?_) ?_
      rotate_left
      · go_simp; try with_reducible rfl
      try simp only [Act.put, List.getElem_toArray, List.getElem_cons_zero, List.getElem_cons_succ, List.setIfInBounds_toArray, List.set_cons_zero, List.set_cons_succ]
      refine plan_take (v := ?_) rfl (by rfl) (fun w' hw' => ?_) ?_
      rotate_left
      · go_simp; try with_reducible rfl
      try simp only [Act.put, List.getElem_toArray, List.getElem_cons_zero, List.getElem_cons_succ, List.setIfInBounds_toArray, List.set_cons_zero, List.set_cons_succ]
      refine plan_take (v := ?_) rfl (by rfl) (fun w' hw' => ?_) ?_
      rotate_left
      · have hx := (HS.out w' hw').1
        go_simp; try with_reducible rfl
      try simp only [Act.put, List.getElem_toArray, List.getElem_cons_zero, List.getElem_cons_succ, List.setIfInBounds_toArray, List.set_cons_zero, List.set_cons_succ]
      refine plan_take (v := ?_) rfl (by rfl) (fun w' hw' => ?_) ?_
      rotate_left
      · obtain ⟨-, hx1, hx2⟩ := HS.out w' hw'
        go_simp; try with_reducible rfl
      try simp only [Act.put, List.getElem_toArray, List.getElem_cons_zero, List.getElem_cons_succ, List.setIfInBounds_toArray, List.set_cons_zero, List.set_cons_succ]
      refine plan_one rfl (by rfl) fun K hK => ?_
      go_simp
      go_at_call 24
      refine (HLK2.out wq.drew (hD5.below (Below.refl _ _).drew) (hLq.below (Below.refl _ _).drew) (HI.out g k wq wq.drew hgw hI5 (Tn.of_below (Below.refl _ _).drew))).mono ?_
      rintro e w6 ⟨rfl, hk6, hI6⟩
      refine hK.out _ _ hk6.undrew ?_
      clear hK K
      try simp only [Act.put, List.getElem_toArray, List.getElem_cons_zero, List.getElem_cons_succ, List.setIfInBounds_toArray, List.set_cons_zero, List.set_cons_succ]
      refine plan_take (v := ?_) rfl (by rfl) (fun w' hw' => ?_) ?_
      rotate_left
      · go_simp; try with_reducible rfl
      try simp only [Act.put, List.getElem_toArray, List.getElem_cons_zero, List.getElem_cons_succ, List.setIfInBounds_toArray, List.set_cons_zero, List.set_cons_succ]
      refine plan_done (NoPanic.normal ?_)
      have hD6 : DeskAt w6 (GR G0 g) g dn := DeskAt.kp (w := wq) hD5 hk6.undrew (fun b hb => .inl (HM.out b hb)) (fun hm => by have := (HG.out g (HM.out g hm)).2; omega)
      have hK6 := hK5.trans hk6.undrew
      have HD6 := Lib.hid hD6
      clear hD5 hLq hI5 hk6 HLK2 hD6 hR5 hK5
      go_wp2_with fail
      go_roundw
      case rel => exact ⟨k + 1, by omega, by omega, by go_num, by rw [HPN.out]; exact HD6.out, hI6, hK6⟩
      case measure => simp [intOf] <;> omega
    · have hkm : k = min l.length 80 := by omega
      have HD := Lib.hid (show DeskAt wr (GR G0 g) g (playL Desk.new ((l.map (·.data.toList)).take 80)) by
        have e : (l.map (·.data.toList)).take 80 = (l.map (·.data.toList)).take k := by
          by_cases h : k = 80
          · rw [h]
          · have h2 : k = l.length := by omega
            rw [List.take_of_length_le (by rw [List.length_map]; omega), List.take_of_length_le (by rw [List.length_map]; omega)]
        rw [e]; exact hDk)
      have HIK := Lib.hid (show I g (min l.length 80) wr by rw [← hkm]; exact hIk)
      clear hDk hIk hkm hbw
      by_cases h1 : k < l.length
      · have h2 : 80 ≤ k := by omega
        clear hlt
        go_wp2_with fail
        go_ret2
        exact ⟨g, rfl, hgw, HD.out, HIK.out, hKk⟩
      · clear hlt
        go_wp2_with fail
        go_ret2
        exact ⟨g, rfl, hgw, HD.out, HIK.out, hKk⟩
end Go.Proofs.YtifmdkcpbajdcabGreatDoor
