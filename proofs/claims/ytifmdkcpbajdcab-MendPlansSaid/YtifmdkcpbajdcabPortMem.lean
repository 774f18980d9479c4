/- Ports in memory: their cells; whether a ship may be one. -/
import Derived.Test.YtifmdkcpbajdcabSpanW1
import Derived.Laws.ResultCell
import Derived.Test.YtifmdkcpbajdcabPlain
import Derived.Test.YtifmdkcpbajdcabAppend
namespace Go.Proofs.Ytifmdkcpbajdcab
open Go.RowKit Go.Proofs Plain

def i64 (n : Int) : Prop := -9223372036854775808 ≤ n ∧ n ≤ 9223372036854775807

structure ShipWf (s : Ship) : Prop where
  state : i64 s.state
  wide : i64 s.wide
  long : i64 s.long
  cls : i64 s.cls
  since : i64 s.since
  queued : i64 s.queued

def shipV (s : Ship) : Array Value := #[.int .i64 s.state, .int .i64 s.wide, .int .i64 s.long, .int .i64 s.cls, .int .i64 s.since, .int .i64 s.queued]

def shipCells : List Ship → List Value
  | [] => []
  | s :: r => (shipV s).toList ++ shipCells r

def keptV (k : Kept) : List Value := [.int .i64 k.wide, .int .i64 k.fr, .int .i64 k.to]

theorem psmall_any (n lo hi : Int) (w : World) :
    Calls Try.prog 27 #[.int .i64 n, .int .i64 lo, .int .i64 hi] w fun e w' => e = .returned (.bool (inB n lo hi)) ∧ w' = w := by
  by_cases h : lo ≤ n
  all_goals
    go_enter Try.func27, Try.ntmps27
    go_wp2_with fail
    go_ret
    exact ⟨ret_bool (by rw [Bool.eq_iff_iff]; simp [inB]; omega), rfl⟩

theorem psmall_is {n lo hi : Int} {b : Bool} (w : World) (h : inB n lo hi = b) :
    Calls Try.prog 27 #[.int .i64 n, .int .i64 lo, .int .i64 hi] w fun e w' => e = .returned (.bool b) ∧ w' = w := by
  subst h; exact psmall_any n lo hi w

theorem small_box {B : Nat} {w : World} {v : Array Value} {T : TypeId} (h : B ≤ w.heap.size) : Below B w (w.alloc (.cells v T)) := (Below.refl _ _).alloc h _

set_option maxHeartbeats 4000000 in
theorem goodShip_any (s : Ship) (now : Int) (w : World) (hs : ShipWf s) (hn : i64 now) :
    Calls Try.prog 28 #[.agg (shipV s), .int .i64 now] w fun e w' => e = .returned (.bool (shipB s now)) ∧ Below w.heap.size w w' := by
  obtain ⟨⟨p1, p2⟩, ⟨p3, p4⟩, ⟨p5, p6⟩, ⟨p7, p8⟩, ⟨p9, p10⟩, ⟨p11, p12⟩⟩ := hs
  obtain ⟨p13, p14⟩ := hn
  have N1 := Lib.hid (@ship_no1 s now)
  have N2 := Lib.hid (@ship_no2 s now)
  have N3 := Lib.hid (@ship_no3 s now)
  have N4 := Lib.hid (@ship_no4 s now)
  have N5 := Lib.hid (@ship_no5 s now)
  have S := Lib.hid (@ship_still s now)
  have L := Lib.hid (@ship_lies s now)
  have T := Lib.hid (@ship_late s now)
  have HBX := Lib.hid (fun (v : Array Value) (T : TypeId) => small_box (v := v) (T := T) (Nat.le_refl w.heap.size))
  obtain ⟨B, hB⟩ : ∃ B, B = shipB s now := ⟨_, rfl⟩
  rw [← hB] at N1 N2 N3 N4 N5 S L T
  rw [← hB]
  clear hB
  obtain ⟨st, wd, lg, cl, si, qu⟩ := s
  dsimp only [shipV] at *
  by_cases h1 : inB st 1 4 = true
  · by_cases h2 : inB wd 1 16 = true
    · by_cases h3 : inB lg 1 300 = true
      · by_cases h4 : inB cl 0 3 = true
        · by_cases h5 : qu < 0
          · have F := Lib.hid (N5.out h5)
            have H1 := Lib.hid h1
            have H2 := Lib.hid h2
            have H3 := Lib.hid h3
            have H4 := Lib.hid h4
            clear h1 h2 h3 h4
            clear N1 N2 N3 N4 N5 S L T
            go_enter Try.func28, Try.ntmps28
            go_wp2_with (first
              | (go_at_call 27; (with_reducible refine (psmall_is _ H1.out).mono ?_); rintro e w' ⟨rfl, rfl⟩)
              | (go_at_call 27; (with_reducible refine (psmall_is _ H2.out).mono ?_); rintro e w' ⟨rfl, rfl⟩)
              | (go_at_call 27; (with_reducible refine (psmall_is _ H3.out).mono ?_); rintro e w' ⟨rfl, rfl⟩)
              | (go_at_call 27; (with_reducible refine (psmall_is _ H4.out).mono ?_); rintro e w' ⟨rfl, rfl⟩))
            go_ret
            exact ⟨ret_bool F.out.symm, HBX.out _ _⟩
          · have h5' : 0 ≤ qu := by omega
            by_cases h6 : st = 3
            · subst h6
              have F := Lib.hid (L.out h1 h2 h3 h4 h5' rfl)
              have T' := Lib.hid (T.out rfl)
              obtain ⟨g1, g2⟩ := (inB_iff _ _ _).1 h3
              have H1 := Lib.hid h1
              have H2 := Lib.hid h2
              have H3 := Lib.hid h3
              have H4 := Lib.hid h4
              clear h1 h2 h3 h4
              clear N1 N2 N3 N4 N5 S L T
              by_cases d1 : 0 ≤ si
              · by_cases d2 : si ≤ now
                · by_cases d3 : si ≤ 400
                  · by_cases d4 : now < si + lg
                    · clear T'
                      go_enter Try.func28, Try.ntmps28
                      go_wp2_with (first
                        | (go_at_call 27; (with_reducible refine (psmall_is _ H1.out).mono ?_); rintro e w' ⟨rfl, rfl⟩)
                        | (go_at_call 27; (with_reducible refine (psmall_is _ H2.out).mono ?_); rintro e w' ⟨rfl, rfl⟩)
                        | (go_at_call 27; (with_reducible refine (psmall_is _ H3.out).mono ?_); rintro e w' ⟨rfl, rfl⟩)
                        | (go_at_call 27; (with_reducible refine (psmall_is _ H4.out).mono ?_); rintro e w' ⟨rfl, rfl⟩))
                      go_ret
                      exact ⟨ret_bool (by rw [F.out, decide_eq_true d1, decide_eq_true d2, decide_eq_true d4]; simp), HBX.out _ _⟩
                    · have F' := Lib.hid (T'.out (by omega))
                      clear F T'
                      go_enter Try.func28, Try.ntmps28
                      go_wp2_with (first
                        | (go_at_call 27; (with_reducible refine (psmall_is _ H1.out).mono ?_); rintro e w' ⟨rfl, rfl⟩)
                        | (go_at_call 27; (with_reducible refine (psmall_is _ H2.out).mono ?_); rintro e w' ⟨rfl, rfl⟩)
                        | (go_at_call 27; (with_reducible refine (psmall_is _ H3.out).mono ?_); rintro e w' ⟨rfl, rfl⟩)
                        | (go_at_call 27; (with_reducible refine (psmall_is _ H4.out).mono ?_); rintro e w' ⟨rfl, rfl⟩))
                      go_ret
                      exact ⟨ret_bool F'.out.symm, HBX.out _ _⟩
                  · have F' := Lib.hid (T'.out (by omega))
                    clear F T'
                    have hov : wrap64 (si + lg) ≤ now ∨ 300 < wrap64 (si + lg) := by unfold wrap64; omega
                    generalize hS : wrap64 (si + lg) = S at hov
                    by_cases d4 : now < S
                    · have d5 : 300 < S := by omega
                      clear hov
                      go_enter Try.func28, Try.ntmps28
                      go_wp2_with (first
                        | (go_at_call 27; (with_reducible refine (psmall_is _ H1.out).mono ?_); rintro e w' ⟨rfl, rfl⟩)
                        | (go_at_call 27; (with_reducible refine (psmall_is _ H2.out).mono ?_); rintro e w' ⟨rfl, rfl⟩)
                        | (go_at_call 27; (with_reducible refine (psmall_is _ H3.out).mono ?_); rintro e w' ⟨rfl, rfl⟩)
                        | (go_at_call 27; (with_reducible refine (psmall_is _ H4.out).mono ?_); rintro e w' ⟨rfl, rfl⟩))
                      go_ret
                      exact ⟨ret_bool (by rw [F'.out, decide_eq_false (by omega)]), HBX.out _ _⟩
                    · clear hov
                      go_enter Try.func28, Try.ntmps28
                      go_wp2_with (first
                        | (go_at_call 27; (with_reducible refine (psmall_is _ H1.out).mono ?_); rintro e w' ⟨rfl, rfl⟩)
                        | (go_at_call 27; (with_reducible refine (psmall_is _ H2.out).mono ?_); rintro e w' ⟨rfl, rfl⟩)
                        | (go_at_call 27; (with_reducible refine (psmall_is _ H3.out).mono ?_); rintro e w' ⟨rfl, rfl⟩)
                        | (go_at_call 27; (with_reducible refine (psmall_is _ H4.out).mono ?_); rintro e w' ⟨rfl, rfl⟩))
                      go_ret
                      exact ⟨ret_bool F'.out.symm, HBX.out _ _⟩
                · have F' := Lib.hid (T'.out (by omega))
                  clear F T'
                  go_enter Try.func28, Try.ntmps28
                  go_wp2_with (first
                    | (go_at_call 27; (with_reducible refine (psmall_is _ H1.out).mono ?_); rintro e w' ⟨rfl, rfl⟩)
                    | (go_at_call 27; (with_reducible refine (psmall_is _ H2.out).mono ?_); rintro e w' ⟨rfl, rfl⟩)
                    | (go_at_call 27; (with_reducible refine (psmall_is _ H3.out).mono ?_); rintro e w' ⟨rfl, rfl⟩)
                    | (go_at_call 27; (with_reducible refine (psmall_is _ H4.out).mono ?_); rintro e w' ⟨rfl, rfl⟩))
                  go_ret
                  exact ⟨ret_bool F'.out.symm, HBX.out _ _⟩
              · have F' := Lib.hid (T'.out (by omega))
                clear F T'
                go_enter Try.func28, Try.ntmps28
                go_wp2_with (first
                  | (go_at_call 27; (with_reducible refine (psmall_is _ H1.out).mono ?_); rintro e w' ⟨rfl, rfl⟩)
                  | (go_at_call 27; (with_reducible refine (psmall_is _ H2.out).mono ?_); rintro e w' ⟨rfl, rfl⟩)
                  | (go_at_call 27; (with_reducible refine (psmall_is _ H3.out).mono ?_); rintro e w' ⟨rfl, rfl⟩)
                  | (go_at_call 27; (with_reducible refine (psmall_is _ H4.out).mono ?_); rintro e w' ⟨rfl, rfl⟩))
                go_ret
                exact ⟨ret_bool F'.out.symm, HBX.out _ _⟩
            · have F := Lib.hid (S.out h1 h2 h3 h4 h5' h6)
              have H1 := Lib.hid h1
              have H2 := Lib.hid h2
              have H3 := Lib.hid h3
              have H4 := Lib.hid h4
              clear h1 h2 h3 h4
              clear N1 N2 N3 N4 N5 S L T
              go_enter Try.func28, Try.ntmps28
              go_wp2_with (first
                | (go_at_call 27; (with_reducible refine (psmall_is _ H1.out).mono ?_); rintro e w' ⟨rfl, rfl⟩)
                | (go_at_call 27; (with_reducible refine (psmall_is _ H2.out).mono ?_); rintro e w' ⟨rfl, rfl⟩)
                | (go_at_call 27; (with_reducible refine (psmall_is _ H3.out).mono ?_); rintro e w' ⟨rfl, rfl⟩)
                | (go_at_call 27; (with_reducible refine (psmall_is _ H4.out).mono ?_); rintro e w' ⟨rfl, rfl⟩))
              go_ret
              exact ⟨ret_bool (by rw [F.out]; rfl), HBX.out _ _⟩
        · have h4 : inB cl 0 3 = false := by simpa using h4
          have F := Lib.hid (N4.out h4)
          have H1 := Lib.hid h1
          have H2 := Lib.hid h2
          have H3 := Lib.hid h3
          have H4 := Lib.hid h4
          clear h1 h2 h3 h4
          clear N1 N2 N3 N4 N5 S L T
          go_enter Try.func28, Try.ntmps28
          go_wp2_with (first
            | (go_at_call 27; (with_reducible refine (psmall_is _ H1.out).mono ?_); rintro e w' ⟨rfl, rfl⟩)
            | (go_at_call 27; (with_reducible refine (psmall_is _ H2.out).mono ?_); rintro e w' ⟨rfl, rfl⟩)
            | (go_at_call 27; (with_reducible refine (psmall_is _ H3.out).mono ?_); rintro e w' ⟨rfl, rfl⟩)
            | (go_at_call 27; (with_reducible refine (psmall_is _ H4.out).mono ?_); rintro e w' ⟨rfl, rfl⟩))
          go_ret
          exact ⟨ret_bool F.out.symm, HBX.out _ _⟩
      · have h3 : inB lg 1 300 = false := by simpa using h3
        have F := Lib.hid (N3.out h3)
        have H1 := Lib.hid h1
        have H2 := Lib.hid h2
        have H3 := Lib.hid h3
        clear h1 h2 h3
        clear N1 N2 N3 N4 N5 S L T
        go_enter Try.func28, Try.ntmps28
        go_wp2_with (first
          | (go_at_call 27; (with_reducible refine (psmall_is _ H1.out).mono ?_); rintro e w' ⟨rfl, rfl⟩)
          | (go_at_call 27; (with_reducible refine (psmall_is _ H2.out).mono ?_); rintro e w' ⟨rfl, rfl⟩)
          | (go_at_call 27; (with_reducible refine (psmall_is _ H3.out).mono ?_); rintro e w' ⟨rfl, rfl⟩))
        go_ret
        exact ⟨ret_bool F.out.symm, HBX.out _ _⟩
    · have h2 : inB wd 1 16 = false := by simpa using h2
      have F := Lib.hid (N2.out h2)
      have H1 := Lib.hid h1
      have H2 := Lib.hid h2
      clear h1 h2
      clear N1 N2 N3 N4 N5 S L T
      go_enter Try.func28, Try.ntmps28
      go_wp2_with (first
        | (go_at_call 27; (with_reducible refine (psmall_is _ H1.out).mono ?_); rintro e w' ⟨rfl, rfl⟩)
        | (go_at_call 27; (with_reducible refine (psmall_is _ H2.out).mono ?_); rintro e w' ⟨rfl, rfl⟩))
      go_ret
      exact ⟨ret_bool F.out.symm, HBX.out _ _⟩
  · have h1 : inB st 1 4 = false := by simpa using h1
    have F := Lib.hid (N1.out h1)
    have H1 := Lib.hid h1
    clear h1
    clear N1 N2 N3 N4 N5 S L T
    go_enter Try.func28, Try.ntmps28
    go_wp2_with (first
      | (go_at_call 27; (with_reducible refine (psmall_is _ H1.out).mono ?_); rintro e w' ⟨rfl, rfl⟩))
    go_ret
    exact ⟨ret_bool F.out.symm, HBX.out _ _⟩
end Go.Proofs.Ytifmdkcpbajdcab

/- Ports in memory: where a ship lies; a port's variable. -/
namespace Go.Proofs.Ytifmdkcpbajdcab
open Go.RowKit Go.Proofs Plain

theorem shipCells_len (l : List Ship) : (shipCells l).length = l.length * 6 := by
  induction l with
  | nil => rfl
  | cons s r ih => simp only [shipCells, shipV, List.length_append, List.length_cons, List.length_nil, ih]; omega

theorem shipCells_app (l m : List Ship) : shipCells (l ++ m) = shipCells l ++ shipCells m := by
  induction l with
  | nil => rfl
  | cons s r ih => simp only [List.cons_append, shipCells, ih, List.append_assoc]

theorem shipCells_get (l : List Ship) : ∀ j i, j < l.length → i < 6 → (shipCells l)[j * 6 + i]? = (shipV (l.getD j Ship.zero))[i]? := by
  induction l with
  | nil => intro j i hj; simp at hj
  | cons s r ih =>
    intro j i hj hi
    have hl : (shipV s).toList.length = 6 := rfl
    cases j with
    | zero =>
      simp only [shipCells, Nat.zero_mul, Nat.zero_add, List.getD_cons_zero]
      rw [List.getElem?_append_left (by omega)]; simp
    | succ j =>
      simp only [shipCells, List.getD_cons_succ]
      rw [List.getElem?_append_right (by omega), hl, show (j + 1) * 6 + i - 6 = j * 6 + i by omega]
      exact ih j i (by simpa using hj) hi

/-- Where ships lie. -/
theorem ships_at {w : World} {A : Option Addr} {l : List Ship} (h : Sl w 6 A l.length (shipCells l)) (hl : 0 < l.length) :
    ∃ b off, A = some ⟨b, off, none⟩ ∧ b < w.heap.size ∧
      ∀ j, j < l.length → w.cell? ⟨b, off + j * 6, none⟩ = some (.int .i64 (l.getD j Ship.zero).state) ∧ w.cell? ⟨b, off + j * 6 + 1, none⟩ = some (.int .i64 (l.getD j Ship.zero).wide) ∧
        w.cell? ⟨b, off + j * 6 + 2, none⟩ = some (.int .i64 (l.getD j Ship.zero).long) ∧ w.cell? ⟨b, off + j * 6 + 3, none⟩ = some (.int .i64 (l.getD j Ship.zero).cls) ∧
        w.cell? ⟨b, off + j * 6 + 4, none⟩ = some (.int .i64 (l.getD j Ship.zero).since) ∧ w.cell? ⟨b, off + j * 6 + 5, none⟩ = some (.int .i64 (l.getD j Ship.zero).queued) := by
  obtain ⟨b, off, e, hc⟩ := h.2 (by omega)
  obtain ⟨b', off', e', hlt⟩ := h.lt (by omega)
  rw [e] at e'
  injection e' with e'
  injection e' with e1 e2
  subst e1
  refine ⟨b, off, e, hlt, fun j hj => ?_⟩
  have g := fun i (hi : i < 6) => (hc (j * 6 + i) (by omega)).trans (shipCells_get l j i hj hi)
  exact ⟨g 0 (by omega), g 1 (by omega), g 2 (by omega), g 3 (by omega), g 4 (by omega), g 5 (by omega)⟩

/-- A port's cells. -/
def portA (p : Port) (A : Option Addr) (c : Nat) : Array Value :=
  #[.int .i64 p.now, .slice A p.ships.length c, .int .i64 (p.keep 0).wide, .int .i64 (p.keep 0).fr, .int .i64 (p.keep 0).to, .int .i64 (p.keep 1).wide, .int .i64 (p.keep 1).fr, .int .i64 (p.keep 1).to,
    .int .i64 (p.keep 2).wide, .int .i64 (p.keep 2).fr, .int .i64 (p.keep 2).to, .int .i64 (p.keep 3).wide, .int .i64 (p.keep 3).fr, .int .i64 (p.keep 3).to, .int .i64 p.shut, .int .i64 p.next]

def keptA (p : Port) : Array Value :=
  #[.int .i64 (p.keep 0).wide, .int .i64 (p.keep 0).fr, .int .i64 (p.keep 0).to, .int .i64 (p.keep 1).wide, .int .i64 (p.keep 1).fr, .int .i64 (p.keep 1).to,
    .int .i64 (p.keep 2).wide, .int .i64 (p.keep 2).fr, .int .i64 (p.keep 2).to, .int .i64 (p.keep 3).wide, .int .i64 (p.keep 3).fr, .int .i64 (p.keep 3).to]

structure KeptWf (k : Kept) : Prop where
  wide : i64 k.wide
  fr : i64 k.fr
  to : i64 k.to

structure PWf (p : Port) : Prop where
  now : i64 p.now
  shut : i64 p.shut
  next : i64 p.next
  ship : ∀ i, i < p.ships.length → ShipWf (p.ship i)
  keep : ∀ i, KeptWf (p.keep i)
  four : p.kept.length = 4
  len : p.ships.length ≤ maxLen

/-- The ships of a port lie at A. -/
def InP (w : World) (p : Port) (A : Option Addr) : Prop := Sl w 6 A p.ships.length (shipCells p.ships)

theorem InP.below {w w' : World} {p : Port} {A : Option Addr} (h : InP w p A) (hb : Below w.heap.size w w') : InP w' p A := Sl.below h hb

theorem fair_wf {p : Port} (h : Plain.Fair p) : PWf p := by
  have hn := h.now
  have hx := h.next
  have hs := h.shut
  refine ⟨by unfold i64; omega, by unfold i64; omega, by unfold i64; omega, fun i hi => ?_, fun i => ?_, h.four, by have := h.len; unfold maxLen; omega⟩
  · obtain ⟨s, q⟩ := h.ship i hi
    have h1 := s.state; have h2 := s.wide; have h3 := s.long; have h4 := s.cls; have h5 := s.queued
    have h6 : 0 ≤ (p.ship i).since ∧ (p.ship i).since ≤ 300 := by
      by_cases c : (p.ship i).state = 3
      · have := s.lies c; omega
      · have := s.other c; omega
    exact ⟨by unfold i64; omega, by unfold i64; omega, by unfold i64; omega, by unfold i64; omega, by unfold i64; omega, by unfold i64; omega⟩
  · by_cases hi : i < 4
    · have := h.kept i hi
      unfold KeptOk at this
      exact ⟨by unfold i64; omega, by unfold i64; omega, by unfold i64; omega⟩
    · have e : p.keep i = Kept.zero := by
        unfold Port.keep
        rw [List.getD_eq_getElem?_getD, List.getElem?_eq_none (by rw [h.four]; omega)]; rfl
      rw [e]
      exact ⟨by unfold i64 Kept.zero; simp, by unfold i64 Kept.zero; simp, by unfold i64 Kept.zero; simp⟩

/-- A port's variable: the block g. -/
def PortAt (w : World) (g : Nat) (p : Port) (A : Option Addr) (c : Nat) : Prop := w.heap[g]? = some (.cells (portA p A c) 27 (0, 0))

section
variable {w w' : World} {g : Nat} {p : Port} {A : Option Addr} {c : Nat}
theorem PortAt.lt (h : PortAt w g p A c) : g < w.heap.size := (Array.getElem?_eq_some_iff.1 h).1
theorem PortAt.new (w : World) (p : Port) (A : Option Addr) (c : Nat) : PortAt (w.alloc (.cells (portA p A c) 27)) w.heap.size p A c := heap_alloc_new w _
theorem PortAt.below {n : Nat} (h : PortAt w g p A c) (hb : Below n w w') (hn : g < n) : PortAt w' g p A c := (hb.block g hn).trans h
theorem PortAt.alloc (h : PortAt w g p A c) (o : Obj) : PortAt (w.alloc o) g p A c := (Below.heap_alloc w o g h.lt).trans h
theorem PortAt.drewN (h : PortAt w g p A c) (n : Nat) : PortAt (w.drewN n) g p A c := h
theorem PortAt.cell (h : PortAt w g p A c) (j : Nat) : w.cell? ⟨g, j, none⟩ = (portA p A c)[j]? := by
  rw [cell_of_row w g j _ _ _ h]
theorem PortAt.frozen (h : PortAt w g p A c) (j : Nat) : w.frozen? ⟨g, j, none⟩ = false := by
  unfold PortAt at h; simp [World.frozen?, h]
theorem PortAt.now (h : PortAt w g p A c) : w.cell? ⟨g, 0, none⟩ = some (.int .i64 p.now) := h.cell 0
theorem PortAt.ships (h : PortAt w g p A c) : w.cell? ⟨g, 1, none⟩ = some (.slice A p.ships.length c) := h.cell 1
theorem PortAt.shut (h : PortAt w g p A c) : w.cell? ⟨g, 14, none⟩ = some (.int .i64 p.shut) := h.cell 14
theorem PortAt.next (h : PortAt w g p A c) : w.cell? ⟨g, 15, none⟩ = some (.int .i64 p.next) := h.cell 15
end

section
variable {ops : Array Oper} {rest : List Oper} {o : Oper} {a : Act} {w : World} {Q : Exit → Act → World → Prop}

theorem port_size : (Try.prog.info? 27).map (·.size) = some 16 := by kernel_rfl
theorem kept4_size : (Try.prog.info? 25).map (·.size) = some 12 := by kernel_rfl

theorem wpList_load_port {x : Operand} {g : Nat} {p : Port} {A : Option Addr} {c : Nat} (hg : o.guard = none) (ho : o.op = .load 27 x)
    (hx : a.eval x = .pointer (some ⟨g, 0, none⟩)) (hf : PortAt w g p A c)
    (h : wpList Try.prog ops Q rest (a.put o.dst (.agg (portA p A c))) w) : wpList Try.prog ops Q (o :: rest) a w :=
  wpList_load_row hg _ x ho g hx _ _ _ _ hf Try.underlying27 rfl port_size h

theorem oper_load_port {K : Act → World → Prop} {x : Operand} {g : Nat} {p : Port} {A : Option Addr} {c : Nat} (ho : o.op = .load 27 x)
    (hx : a.eval x = .pointer (some ⟨g, 0, none⟩)) (hf : PortAt w g p A c) (h : K (a.put o.dst (.agg (portA p A c))) w) : o.wp Try.prog a w K Q :=
  wp_load_row _ x ho g hx _ _ _ _ hf Try.underlying27 rfl port_size h

theorem index_kept (p : Port) (k : Nat) (hk : k < 4) (w : World) : (Instr.index 25 (.agg (keptA p)) (.int .i64 k)).run Try.prog w = .ok (.agg #[.int .i64 (p.keep k).wide, .int .i64 (p.keep k).fr, .int .i64 (p.keep k).to]) w := by
  rcases (by omega : k = 0 ∨ k = 1 ∨ k = 2 ∨ k = 3) with rfl | rfl | rfl | rfl <;> kernel_rfl

theorem wpList_index_kept {x y : Operand} {p : Port} {k : Nat} (hg : o.guard = none) (ho : o.op = .index 25 x y) (hx : a.eval x = .agg (keptA p)) (hy : a.eval y = .int .i64 k) (hk : k < 4)
    (h : wpList Try.prog ops Q rest (a.put o.dst (.agg #[.int .i64 (p.keep k).wide, .int .i64 (p.keep k).fr, .int .i64 (p.keep k).to])) w) : wpList Try.prog ops Q (o :: rest) a w := by
  refine wpList_plain hg fun K hK => ?_
  unfold Oper.wp execOp
  simp only [ho, hx, hy, Sem.run_bind, index_kept p k hk, Sem.run_pure, Result.andThen_ok]
  exact hK _ _ h
end
end Go.Proofs.Ytifmdkcpbajdcab
