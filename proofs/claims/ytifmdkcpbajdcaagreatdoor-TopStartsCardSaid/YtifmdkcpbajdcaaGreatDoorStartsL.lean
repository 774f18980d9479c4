/- Walks: TopStarts itself. -/
import Derived.Test.YtifmdkcpbajdcaaGreatDoorStartsW
set_option linter.unusedVariables false
set_option linter.unusedSimpArgs false
namespace Go.Proofs.YtifmdkcpbajdcaaGreatDoor
open Go.RowKit Go.Proofs Plain

theorem two_new (w : World) (o1 o2 : Obj) : ((w.alloc o1).alloc o2).heap[w.heap.size + 1]? = some o2 := by
  rw [show w.heap.size + 1 = (w.alloc o1).heap.size by simp]
  exact heap_alloc_new _ _
theorem two_below (w : World) (o1 o2 : Obj) : Below w.heap.size w ((w.alloc o1).alloc o2) := ((Below.refl _ _).alloc (Nat.le_refl _) _).alloc (by simp) _
theorem new_plan : thePlan Desk.new.p = [] := List.eq_nil_of_length_eq_zero (by rw [plan_len new_ok.now.good]; rfl)
theorem was_zero {G : Nat → Prop} {kw kl : Nat} {w : World} {vs : Array Value} (hs : vs.size = 16) (h1 : vs[1]? = some (.slice none 0 0)) (hb : BoxAt w kw vs) (hl : w.heap[kl]? = some (.cells #[.slice none 0 0] 36 (0, 0))) : WasAt G kw kl Desk.new.p w :=
  ⟨none, 0, none, 0, vs, hs, h1, hb, by rw [new_plan]; exact hl, ⟨⟨rfl, fun h => by simp [show Desk.new.p.ships.length = 0 from rfl] at h⟩, fun h => by simp [show Desk.new.p.ships.length = 0 from rfl] at h⟩, by
    rw [new_plan]; exact ⟨⟨rfl, fun h => by simp at h⟩, fun h => by simp at h⟩⟩
theorem WasAt.same {G : Nat → Prop} {kw kl : Nat} {q : Port} {w w' : World} (h : WasAt G kw kl q w) (h1 : w'.heap[kw]? = w.heap[kw]?) (h2 : w'.heap[kl]? = w.heap[kl]?) (hk : ∀ b, b < w.heap.size → ¬ G b → w'.heap[b]? = w.heap[b]?) : WasAt G kw kl q w' := by
  obtain ⟨A, c, B, cB, vs, hs, hv, hb, hl, r1, r2⟩ := h
  exact ⟨A, c, B, cB, vs, hs, hv, h1.trans hb, h2.trans hl, r1.same hk, r2.same hk⟩
theorem WasAt.lt {G : Nat → Prop} {kw kl : Nat} {q : Port} {w : World} (h : WasAt G kw kl q w) : kw < w.heap.size ∧ kl < w.heap.size := by
  obtain ⟨A, c, B, cB, vs, hs, hv, hb, hl, r1, r2⟩ := h
  exact ⟨hb.lt, (Array.getElem?_eq_some_iff.1 hl).1⟩

set_option maxRecDepth 100000 in
set_option maxHeartbeats 16000000 in
theorem topStarts_walk (Bt : Nat) (l : List ByteArray) (A : Option Addr) (c : Nat) (w : World) (hL : LineAt Bt w) (hsl : StrAt w A l) (hlen : l.length ≤ maxLen) (hsz : ∀ s ∈ l, s.size ≤ maxLen) :
    Calls Tryz.prog 4 #[.slice A l.length c] w fun e w' => e = .returned (.bool true) ∧ Below w.heap.size w w' := by
  have hlow : ∀ b off, A = some ⟨b, off, none⟩ → 0 < l.length → b < w.heap.size := fun b off e h => by
    obtain ⟨b', off', e', hlt, _⟩ := str_at hsl h
    rw [e] at e'
    injection e' with e'
    injection e' with e1 e2
    subst e1
    exact hlt
  have HP := Lib.hid (show ∀ W kw kl vs, vs.size = 16 → vs[1]? = some (.slice none 0 0) → BoxAt W kw vs → W.heap[kl]? = some (.cells #[.slice none 0 0] 36 (0, 0)) → Below w.heap.size w W → w.heap.size ≤ kw → kw < kl →
      Calls Tryz.prog 5 #[.slice A l.length c, .func (.func 11) #[] #[.pointer (some ⟨kw, 0, none⟩), .pointer (some ⟨kl, 0, none⟩)]] W
        (RetPlayStarts (fun b => b = kw ∨ b = kl) (fun b => b = kw ∨ b = kl) (fun g k wr => WasAt (GR (fun b => b = kw ∨ b = kl) g) kw kl (playL Desk.new ((l.map (·.data.toList)).take k)).p wr ∧ kw < W.heap.size ∧ kl < W.heap.size) l W) from
    fun W kw kl vs hs hv hb hl hB h1 h2 => by
      have hkl : kl < W.heap.size := (Array.getElem?_eq_some_iff.1 hl).1
      have hkw := hb.lt
      refine playStarts_any Bt w.heap.size _ _ _ l A c kw kl W (hL.below (hB.mono hL.size)) hL.size hB.size (hsl.below hB) hlow hlen hsz ?_ (fun _ h => h) ?_ ?_ ?_
      · rintro b (rfl | rfl)
        · exact ⟨h1, hkw⟩
        · exact ⟨by omega, hkl⟩
      · intro g w' hb' _ _
        exact ⟨was_zero hs hv (hb.below hb' hkw) ((hb'.block kl hkl).trans hl), hkw, hkl⟩
      · rintro g k wa wb hg ⟨h, h3, h4⟩ ht
        exact ⟨h.same (ht.block kw h.lt.1 (fun e => by injection e with e; omega)) (ht.block kl h.lt.2 (fun e => by injection e with e; omega)) (fun b hb hn => ht.block b hb (fun e => hn (by injection e with e; exact .inr e))), h3, h4⟩
      · rintro g k s wr hg hk hs' hD hok hLr ⟨hI, h3, h4⟩
        have hs2 : (l.map (·.data.toList))[k]? = some s.data.toList := by rw [List.getElem?_map, hs']; rfl
        rw [play_one _ k _ _ hs2] at hD
        refine (startsLook_any Bt (GR (fun b => b = kw ∨ b = kl) g) g kw kl _ s wr hD hok hLr (hsz s (List.mem_of_getElem? hs')) ⟨.inl (.inl rfl), .inl (.inr rfl)⟩ ⟨by omega, by omega, by omega⟩ hI).mono ?_
        rintro e w' ⟨e1, e2, e3⟩
        refine ⟨e1, e2, ?_, h3, h4⟩
        rw [play_one _ k _ _ hs2]
        exact e3)
  clear hL hsl hlow hlen hsz
  go_enter Tryz.func4, Tryz.ntmps4
  go_wp2_with fail

  refine (HP.out _ _ _ ?vs ?a1 ?a2 ?a3 ?a4 ?a5 ?a6 ?a7).mono ?a8
  case a3 => exact (BoxAt.new w _).alloc _
  case a1 => rfl
  case a2 => rfl
  case a4 => exact two_new _ _ _
  case a5 => exact two_below _ _ _
  case a6 => exact Nat.le_refl _
  case a7 => omega
  rintro e w1 ⟨g, rfl, _, _, _, hk⟩
  have hb := (two_below w _ _).trans (hk.below (n := w.heap.size) (fun b hb => by rcases hb with rfl | rfl <;> omega) (two_below w _ _).size)
  clear hk HP
  go_wp2_with fail
  go_ret
  exact ⟨rfl, hb⟩
end Go.Proofs.YtifmdkcpbajdcaaGreatDoor
