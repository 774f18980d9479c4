/- Walks: TopMemory itself. -/
import Derived.Test.YtifmdkcpbajdcabGreatDoorMemW
import Derived.Test.YtifmdkcpbajdcabGreatDoorOpenL
set_option linter.unusedVariables false
set_option linter.unusedSimpArgs false
namespace Go.Proofs.YtifmdkcpbajdcabGreatDoor
open Go.RowKit Go.Proofs Plain

set_option maxRecDepth 100000 in
set_option maxHeartbeats 16000000 in
theorem topMemory_walk (Bt : Nat) (l : List ByteArray) (A : Option Addr) (c : Nat) (w : World) (hL : LineAt Bt w) (hsl : StrAt w A l) (hlen : l.length ≤ maxLen) (hsz : ∀ s ∈ l, s.size ≤ maxLen) :
    Calls Tryz.prog 8 #[.slice A l.length c] w fun e w' => e = .returned (.bool true) ∧ Below w.heap.size w w' := by
  have hlow : ∀ b off, A = some ⟨b, off, none⟩ → 0 < l.length → b < w.heap.size := fun b off e h => by
    obtain ⟨b', off', e', hlt, _⟩ := str_at hsl h
    rw [e] at e'
    injection e' with e'
    injection e' with e1 e2
    subst e1
    exact hlt
  have HP := Lib.hid (show ∀ W kc h T, W.heap[kc]? = some (.cells #[.pointer (some ⟨h, 0, none⟩)] T (0, 0)) → DeskAt W (fun b => b = h) h Desk.new → Below w.heap.size w W → w.heap.size ≤ kc → w.heap.size ≤ h → h < W.heap.size → h ≠ kc →
      Calls Tryz.prog 9 #[.slice A l.length c, .func (.func 24) #[] #[.pointer (some ⟨kc, 0, none⟩)]] W
        (RetPlayMem (fun b => b = h) (fun b => b = h) (fun g k wr => DeskAt wr (GR (fun b => b = h) g) h (playL Desk.new ((l.map (·.data.toList)).take k)) ∧ wr.heap[kc]? = some (.cells #[.pointer (some ⟨h, 0, none⟩)] T (0, 0))) l W) from
    fun W kc h T hc hE hB h1 h2 hh hne => by
      have hkc : kc < W.heap.size := (Array.getElem?_eq_some_iff.1 hc).1
      refine playMem_any Bt w.heap.size _ _ _ l A c kc W (hL.below (hB.mono hL.size)) hL.size hB.size (Sl.below hsl hB) hlow hlen hsz ?_ (fun _ h => h) ?_ ?_ ?_
      · rintro b rfl
        exact ⟨h2, hh⟩
      · intro g w' hb' hg hg2
        refine ⟨?_, (hb'.block kc hkc).trans hc⟩
        exact hE.join hb' (fun b hb => by
          rcases hb with hb | hb
          · exact .inl hb
          · exact .inr (by omega)) (.inl rfl) (fun b hb => by
          rcases hb with hb | hb
          · rw [hb]; exact Nat.lt_of_lt_of_le hh hb'.size
          · rw [hb]; exact hg2)
      · rintro g k wa wb hg ⟨i1, i2⟩ ht
        exact ⟨i1.beside ht (by omega) (.inr rfl), (ht.block kc (Array.getElem?_eq_some_iff.1 i2).1 (fun e => by injection e with e; omega)).trans i2⟩
      · rintro g k s wr hg hk hs' hD hok hLr ⟨i1, i2⟩
        have hs2 : (l.map (·.data.toList))[k]? = some s.data.toList := by rw [List.getElem?_map, hs']; rfl
        rw [play_one _ k _ _ hs2] at hD
        have hac := play_le ((l.map (·.data.toList)).take k) Desk.new
        rw [List.length_take] at hac
        refine (memLook_any Bt (GR (fun b => b = h) g) g h kc _ s wr T hD i1 hok (by have h0 : Desk.new.acts = 0 := rfl; omega) hLr (Nat.le_trans hL.size h2) (hsz s (List.mem_of_getElem? hs')) i2 ⟨by omega, hne⟩).mono ?_
        rintro e w' ⟨e1, e2, e3⟩
        refine ⟨e1, ⟨e2.os, e2.tape, e2.output, e2.size, fun b hb hn => e2.block b hb (fun e => hn (by injection e))⟩, ?_, (e2.block kc (Array.getElem?_eq_some_iff.1 i2).1 (fun e => by injection e with e; exact hne e.symm)).trans i2⟩
        rw [play_one _ k _ _ hs2]
        exact e3)
  clear hL hsl hlow hlen hsz
  go_enter Tryz.func8, Tryz.ntmps8
  go_wp2_with fail
  refine (newD_any _).mono ?_
  rintro e w2 ⟨h, rfl, hg1, hb2, hg2, hD⟩
  go_wp2_with fail
  have hb3 : Below w2.heap.size w2 (w2.alloc (.cells #[.pointer (some ⟨h, 0, none⟩)] 23)) := (Below.refl _ _).alloc (Nat.le_refl _) _
  have hd3 := (hD (fun b => b = h) rfl (fun b hb => by rw [hb]; exact hg2)).below hb3
  have hb03 := below_go hb2 hb3
  refine (HP.out _ w2.heap.size h _ (heap_alloc_new w2 _) hd3 hb03 hb2.size hg1 (Nat.lt_of_lt_of_le hg2 hb3.size) (by omega)).mono ?_
  rintro e w3 ⟨g, rfl, _, _, _, hk⟩
  have hb := hb03.trans (hk.below (n := w.heap.size) (fun b hb => by rw [hb]; exact hg1) hb03.size)
  clear hk HP hb3 hd3 hb03 hD hb2
  go_wp2_with fail
  go_ret
  exact ⟨rfl, hb⟩
end Go.Proofs.YtifmdkcpbajdcabGreatDoor
