/- Walks: behind as many lines as may be told. -/
import Derived.Test.YtifmdkcpbajdcacGreatDoorTwoW
set_option linter.unusedVariables false
set_option linter.unusedSimpArgs false
namespace Go.Proofs.YtifmdkcpbajdcacGreatDoor
open Go.RowKit Go.Proofs Plain

theorem eq_replyE (a b : Int) (w : World) : (Op.equalIn 10000 29 (.agg #[.int .i64 a, .int .i64 b]) (.agg #[.int .i64 a, .int .i64 b])).run Tryz.prog w = .ok true w := by simp [go_sem]
attribute [local go_sem] field_code eq_replyE
/-- So many lines told. -/
def upTo (d : Desk) (k : Nat) : Desk := ⟨d.p, d.was, k⟩
theorem tell_what (d : Desk) (k : Nat) (h : k < 250) : tellD (upTo d k) [63] = (upTo d (k + 1), 1, 0) := by
  have hp : parseL [63] = none := by
    unfold parseL
    rw [if_neg (by decide), show toks [63] = [[63]] by decide]
    unfold parseT
    dsimp only
    rw [if_neg (by decide)]
  unfold tellD upTo
  rw [if_neg (by dsimp only; omega), hp]
theorem upTo_ok {d : Desk} (h : DOk d) (k : Nat) : DOk (upTo d k) := ⟨h.now, h.was⟩

set_option maxRecDepth 100000 in
set_option maxHeartbeats 16000000 in
theorem topEnds_walk (Bt : Nat) (l : List ByteArray) (A : Option Addr) (c : Nat) (s : ByteArray) (w : World) (hL : LineAt Bt w) (hsl : StrAt w A l) (hlen : l.length ≤ maxLen) (hsz : ∀ s ∈ l, s.size ≤ maxLen) (hs : s.size ≤ maxLen) :
    Calls Tryz.prog 3 #[.slice A l.length c, .string s] w fun e w' => e = .returned (.bool true) ∧ Below w.heap.size w w' := by
  have HS := Lib.hid hs
  have hll : l.length ≤ 9223372036854775807 := hlen
  clear hs
  have hlow := texts_low hsl
  have HL := Lib.hid hL
  have HSL := Lib.hid hsl
  have HLEN := Lib.hid hlen
  have HSZ := Lib.hid hsz
  have HLOW := Lib.hid hlow
  clear hL hsl hlen hsz hlow
  go_enter Tryz.func3, Tryz.ntmps3
  go_wp2_with fail
  refine (playQ_any Bt w.heap.size (fun _ => False) l A c w HL.out HL.out.size (Nat.le_refl _) HSL.out HLOW.out HLEN.out HSZ.out (fun _ h => h.elim)).mono ?_
  rintro e w1 ⟨g, rfl, hg, hd1, hb1⟩
  have hgl := hd1.lt
  go_wp2_with fail
  refine (playQ_any Bt w.heap.size (fun b => b = g) l A c w1 (HL.out.below (hb1.mono HL.out.size)) HL.out.size hb1.size (Sl.below HSL.out hb1) HLOW.out HLEN.out HSZ.out (fun b h => by rw [h]; exact ⟨hg, hgl⟩)).mono ?_
  rintro e w2 ⟨h, rfl, hh, hd2, hb2⟩
  have hT := (twin_of HL.out hg hd1 hb1 hh hd2 hb2).pair
  clear HL HSL HLEN HSZ HLOW hgl hd1 hb1 hh hd2 hb2 hg
  have hac := behind_acts l
  have hbe : behind l = upTo (behind l) (min l.length 80) := by rw [← hac]; rfl
  rw [hbe] at hT
  have HOK := Lib.hid (behind_ok l)
  clear hbe hac
  obtain ⟨d, hd⟩ : ∃ d, behind l = d := ⟨_, rfl⟩
  rw [hd] at hT HOK
  clear hd
  have HTT := Lib.hid hT
  clear hT
  have hmin : min (l.length : Int) 80 = ((min l.length 80 : Nat) : Int) := by omega
  obtain ⟨m, hm⟩ : ∃ m, min l.length 80 = m := ⟨_, rfl⟩
  rw [hm] at hmin HTT
  have hm80 : m ≤ 80 := by omega
  clear hm
  go_wp2_with fail
  go_loopw [9] (fun i wr => ∃ k : Nat, k ≤ 250 ∧ i = .int .i64 k ∧ Pair w wr Bt g h (upTo d k) (upTo d k)) (fun i _ => 250 - (intOf i).toNat)
  case atStart => exact ⟨m, by omega, by first | rfl | rw [hmin], HTT.out⟩
  case round =>
    obtain ⟨k, hk, rfl, hT⟩ := hrel
    clear HTT hmin
    by_cases hlt : k < 250
    · have HT1 := Lib.hid (fun (W : World) (t : Pair w W Bt g h (upTo d k) (upTo d k)) => tellD_any Bt (GR (fun b => b = g) h) g (upTo d k) ⟨#[63]⟩ W t.one (upTo_ok HOK.out k) t.line t.bt (by decide) (by show k ≤ 1000; omega))
      have HT2 := Lib.hid (fun (W : World) (t : Pair w W Bt g h (upTo d (k + 1)) (upTo d k)) => tellD_any Bt (GR (fun b => b = g) h) h (upTo d k) ⟨#[63]⟩ W t.two (upTo_ok HOK.out k) t.line (Nat.le_trans t.bt (Nat.le_of_lt t.lt)) (by decide) (by show k ≤ 1000; omega))
      rw [show (⟨#[63]⟩ : ByteArray).data.toList = [63] from rfl, tell_what d k hlt] at HT1 HT2
      dsimp only at HT1 HT2
      go_wp2_with fail
      refine (HT1.out _ hT).mono ?_
      rintro e w3 ⟨rfl, hd3, ht3⟩
      have hT3 := hT.told hd3 ht3
      clear hT hd3 ht3 HT1
      go_wp2_with fail
      refine (HT2.out _ hT3).mono ?_
      rintro e w4 ⟨rfl, hd4, ht4⟩
      have hT4 := hT3.told2 hd4 ht4
      clear hT3 hd4 ht4 HT2
      have HTT := Lib.hid hT4
      clear hT4
      go_wp2_with fail
      go_roundw
      case rel => exact ⟨k + 1, by omega, by go_num, HTT.out⟩
      case measure => simp [intOf] <;> omega
    · obtain rfl : k = 250 := by omega
      have HT1 := Lib.hid (fun (W : World) (t : Pair w W Bt g h (upTo d 250) (upTo d 250)) => tell_full (GR (fun b => b = g) h) g (upTo d 250) s W t.one (by show 250 ≤ 250; omega) (by show 250 ≤ 1000; omega))
      go_wp2_with fail
      refine (HT1.out _ hT).mono ?_
      rintro e w3 ⟨rfl, hd3, ht3⟩
      have hT3 := hT.told hd3 ht3
      clear hT hd3 ht3 HT1
      go_wp2_with fail
      refine (sameD_any _ _ g h (upTo d 250) (upTo d 250) _ hT3.one hT3.two rfl (upTo_ok HOK.out 250).now.good).mono ?_
      rintro e w4 ⟨rfl, hb4⟩
      have hb := below_go hT3.below hb4
      clear hT3 hb4
      go_wp2_with fail
      go_ret
      exact ⟨rfl, hb⟩
end Go.Proofs.YtifmdkcpbajdcacGreatDoor
