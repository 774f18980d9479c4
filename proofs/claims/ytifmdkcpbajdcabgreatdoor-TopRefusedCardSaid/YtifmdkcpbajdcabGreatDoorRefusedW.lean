/- Walks: one line more that is refused. -/
import Derived.Test.YtifmdkcpbajdcabGreatDoorTwoW
set_option linter.unusedVariables false
set_option linter.unusedSimpArgs false
namespace Go.Proofs.YtifmdkcpbajdcabGreatDoor
open Go.RowKit Go.Proofs Plain

set_option maxRecDepth 100000 in
set_option maxHeartbeats 16000000 in
theorem topRefused_walk (Bt : Nat) (l : List ByteArray) (A : Option Addr) (c : Nat) (s : ByteArray) (w : World) (hL : LineAt Bt w) (hsl : StrAt w A l) (hlen : l.length ≤ maxLen) (hsz : ∀ s ∈ l, s.size ≤ maxLen) (hs : s.size ≤ maxLen) :
    Calls Tryz.prog 7 #[.slice A l.length c, .string s] w fun e w' => e = .returned (.bool true) ∧ Below w.heap.size w w' := by
  have HS := Lib.hid hs
  clear hs
  have hlow := texts_low hsl
  have HL := Lib.hid hL
  have HSL := Lib.hid hsl
  have HLEN := Lib.hid hlen
  have HSZ := Lib.hid hsz
  have HLOW := Lib.hid hlow
  clear hL hsl hlen hsz hlow
  go_enter Tryz.func7, Tryz.ntmps7
  go_wp2_with fail
  refine (playQ_any Bt w.heap.size (fun _ => False) l A c w HL.out HL.out.size (Nat.le_refl _) HSL.out HLOW.out HLEN.out HSZ.out (fun _ h => h.elim)).mono ?_
  rintro e w1 ⟨g, rfl, hg, hd1, hb1⟩
  have hgl := hd1.lt
  go_wp2_with fail
  refine (playQ_any Bt w.heap.size (fun b => b = g) l A c w1 (HL.out.below (hb1.mono HL.out.size)) HL.out.size hb1.size (Sl.below HSL.out hb1) HLOW.out HLEN.out HSZ.out (fun b h => by rw [h]; exact ⟨hg, hgl⟩)).mono ?_
  rintro e w2 ⟨h, rfl, hh, hd2, hb2⟩
  have hT := (twin_of HL.out hg hd1 hb1 hh hd2 hb2).pair
  clear HL HSL HLEN HSZ HLOW hgl hd1 hb1 hh hd2 hb2 hg
  have hac := behind_acts l
  have HT := Lib.hid (fun (W : World) (t : Pair w W Bt g h (behind l) (behind l)) => tellD_any Bt (GR (fun b => b = g) h) g (behind l) s W t.one (behind_ok l) t.line t.bt HS.out (by rw [hac]; omega))
  have HK := Lib.hid (tell_ok s.data.toList (behind_ok l))
  obtain ⟨d, hd⟩ : ∃ d, behind l = d := ⟨_, rfl⟩
  rw [hd] at HT HK hT
  obtain ⟨CC, hCC⟩ : ∃ CC, (tellD d s.data.toList).2.1 = CC := ⟨_, rfl⟩
  obtain ⟨NN, hNN⟩ : ∃ NN, (tellD d s.data.toList).2.2 = NN := ⟨_, rfl⟩
  obtain ⟨dn, hdn⟩ : ∃ dn, (tellD d s.data.toList).1 = dn := ⟨_, rfl⟩
  rw [hCC, hNN, hdn] at HT HK
  clear hCC hNN hdn hd hac
  go_wp2_with fail
  refine (HT.out _ hT).mono ?_
  rintro e w3 ⟨rfl, hd3, ht3⟩
  have hT3 := (hT.told hd3 ht3).go ((Below.refl _ _).alloc (Nat.le_refl _) (.cells #[.int .i64 CC, .int .i64 NN] 29))
  clear hT hd3 ht3 HT
  have HK1 := Lib.hid HK.out.1.now.good
  by_cases hc : CC = 0
  · subst hc
    have hb := hT3.below
    clear HK HK1 hT3
    go_wp2_with fail
    go_ret
    exact ⟨rfl, hb⟩
  · obtain ⟨hp, _, hn⟩ := HK.out.2 hc
    have HP := Lib.hid hp
    subst hn
    have n1 : (CC == 0) = false := by simpa using hc
    clear HK hp hc
    go_wp2_with fail
    refine (sameD_any _ _ g h dn d _ hT3.one hT3.two HP.out.symm HK1.out).mono ?_
    rintro e w4 ⟨rfl, hb4⟩
    have hb := below_go hT3.below hb4
    clear hT3 hb4
    go_wp2_with fail
    go_ret
    exact ⟨rfl, hb⟩
end Go.Proofs.YtifmdkcpbajdcabGreatDoor
