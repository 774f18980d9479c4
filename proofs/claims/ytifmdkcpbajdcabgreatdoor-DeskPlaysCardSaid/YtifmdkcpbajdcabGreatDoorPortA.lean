/- Ports in memory: their cells; whether a ship may be one. -/
import Derived.Test.YtifmdkcpbajdcabGreatDoorSpanA
import Derived.Laws.ResultCell
import Derived.Test.YtifmdkcpbajdcabGreatDoorPlain
import Derived.Maps.OwnSet
import Derived.Maps.OwnOps
import Derived.Laws.StructEq
import Derived.Maps.AppendAt
set_option linter.unusedVariables false
set_option linter.unusedSimpArgs false
set_option maxHeartbeats 4000000
namespace Go.Proofs.YtifmdkcpbajdcabGreatDoor
open Go.RowKit Go.Proofs Plain
open Go.Lib renaming hid -> hd_
def i64 (n : Int) : Prop := -9223372036854775808 <= n /\ n <= 9223372036854775807
structure ShipWf (s : Ship) : Prop where
  state : i64 s.state
  wide : i64 s.wide
  long : i64 s.long
  cls : i64 s.cls
  since : i64 s.since
  queued : i64 s.queued
def shipV (s : Ship) : Array Value := #[.int .i64 s.state, .int .i64 s.wide, .int .i64 s.long, .int .i64 s.cls, .int .i64 s.since, .int .i64 s.queued]
def shC : List Ship -> List Value
  | [] => []
  | s :: r => (shipV s).toList ++ shC r
theorem psmall_any (n lo hi : Int) (w : World) :
    Calls Tryz.prog 82 #[.int .i64 n, .int .i64 lo, .int .i64 hi] w fun e w' => e = .returned (.bool (inB n lo hi)) /\ w' = w := by
  by_cases h : lo <= n
  all_goals
    go_enter Tryz.func82, Tryz.ntmps82
    go_wp2_with fail
    go_ret
    exact ⟨rtB (by rw [Bool.eq_iff_iff]; simp [inB]; omega), rfl⟩
theorem psI {n lo hi : Int} {b : Bool} (w : World) (h : inB n lo hi = b) :
    Calls Tryz.prog 82 #[.int .i64 n, .int .i64 lo, .int .i64 hi] w fun e w' => e = .returned (.bool b) /\ w' = w := by
  subst h; exact psmall_any n lo hi w
theorem small_box {B : Nat} {w : World} {v : Array Value} {T : TypeId} (h : B <= w.heap.size) : Below B w (w.alloc (.cells v T)) := (Below.refl _ _).alloc h _
theorem goodShip_any (s : Ship) (now : Int) (w : World) (hs : ShipWf s) (hn : i64 now) :
    Calls Tryz.prog 83 #[.agg (shipV s), .int .i64 now] w fun e w' => e = .returned (.bool (shipB s now)) /\ Below w.heap.size w w' := by
  obtain ⟨⟨p1, p2⟩, ⟨p3, p4⟩, ⟨p5, p6⟩, ⟨p7, p8⟩, ⟨p9, p10⟩, ⟨p11, p12⟩⟩ := hs
  obtain ⟨p13, p14⟩ := hn
  have N1 := hd_ (@ship_no1 s now)
  have N2 := hd_ (@ship_no2 s now)
  have N3 := hd_ (@ship_no3 s now)
  have N4 := hd_ (@ship_no4 s now)
  have N5 := hd_ (@ship_no5 s now)
  have S := hd_ (@ship_still s now)
  have L := hd_ (@ship_lies s now)
  have T := hd_ (@ship_late s now)
  have HBX := hd_ (fun (v : Array Value) (T : TypeId) => small_box (v := v) (T := T) (Nat.le_refl w.heap.size))
  obtain ⟨B, hB⟩ : ∃ B, B = shipB s now := ⟨_, rfl⟩
  rw [<- hB] at N1 N2 N3 N4 N5 S L T
  rw [<- hB]
  clear hB
  obtain ⟨st, wd, lg, cl, si, qu⟩ := s
  dsimp only [shipV] at *
  by_cases h1 : inB st 1 4 = true
  · by_cases h2 : inB wd 1 16 = true
    · by_cases h3 : inB lg 1 300 = true
      · by_cases h4 : inB cl 0 3 = true
        · by_cases h5 : qu < 0
          · have F := hd_ (N5.out h5)
            have H1 := hd_ h1
            have H2 := hd_ h2
            have H3 := hd_ h3
            have H4 := hd_ h4
            clear h1 h2 h3 h4
            clear N1 N2 N3 N4 N5 S L T
            go_enter Tryz.func83, Tryz.ntmps83
            go_wp2_with (first
              | (go_at_call 82; (with_reducible refine (psI _ H1.out).mono ?_); rintro e w' ⟨rfl, rfl⟩)
              | (go_at_call 82; (with_reducible refine (psI _ H2.out).mono ?_); rintro e w' ⟨rfl, rfl⟩)
              | (go_at_call 82; (with_reducible refine (psI _ H3.out).mono ?_); rintro e w' ⟨rfl, rfl⟩)
              | (go_at_call 82; (with_reducible refine (psI _ H4.out).mono ?_); rintro e w' ⟨rfl, rfl⟩))
            go_ret
            exact ⟨rtB F.out.symm, HBX.out _ _⟩
          · have h5' : 0 <= qu := by omega
            by_cases h6 : st = 3
            · subst h6
              have F := hd_ (L.out h1 h2 h3 h4 h5' rfl)
              have T' := hd_ (T.out rfl)
              obtain ⟨g1, g2⟩ := (inB_iff _ _ _).1 h3
              have H1 := hd_ h1
              have H2 := hd_ h2
              have H3 := hd_ h3
              have H4 := hd_ h4
              clear h1 h2 h3 h4
              clear N1 N2 N3 N4 N5 S L T
              by_cases d1 : 0 <= si
              · by_cases d2 : si <= now
                · by_cases d3 : si <= 400
                  · by_cases d4 : now < si + lg
                    · clear T'
                      go_enter Tryz.func83, Tryz.ntmps83
                      go_wp2_with (first
                        | (go_at_call 82; (with_reducible refine (psI _ H1.out).mono ?_); rintro e w' ⟨rfl, rfl⟩)
                        | (go_at_call 82; (with_reducible refine (psI _ H2.out).mono ?_); rintro e w' ⟨rfl, rfl⟩)
                        | (go_at_call 82; (with_reducible refine (psI _ H3.out).mono ?_); rintro e w' ⟨rfl, rfl⟩)
                        | (go_at_call 82; (with_reducible refine (psI _ H4.out).mono ?_); rintro e w' ⟨rfl, rfl⟩))
                      go_ret
                      exact ⟨rtB (by rw [F.out, decide_eq_true d1, decide_eq_true d2, decide_eq_true d4]; simp), HBX.out _ _⟩
                    · have F' := hd_ (T'.out (by omega))
                      clear F T'
                      go_enter Tryz.func83, Tryz.ntmps83
                      go_wp2_with (first
                        | (go_at_call 82; (with_reducible refine (psI _ H1.out).mono ?_); rintro e w' ⟨rfl, rfl⟩)
                        | (go_at_call 82; (with_reducible refine (psI _ H2.out).mono ?_); rintro e w' ⟨rfl, rfl⟩)
                        | (go_at_call 82; (with_reducible refine (psI _ H3.out).mono ?_); rintro e w' ⟨rfl, rfl⟩)
                        | (go_at_call 82; (with_reducible refine (psI _ H4.out).mono ?_); rintro e w' ⟨rfl, rfl⟩))
                      go_ret
                      exact ⟨rtB F'.out.symm, HBX.out _ _⟩
                  · have F' := hd_ (T'.out (by omega))
                    clear F T'
                    have hov : wrap64 (si + lg) <= now \/ 300 < wrap64 (si + lg) := by unfold wrap64; omega
                    generalize hS : wrap64 (si + lg) = S at hov
                    by_cases d4 : now < S
                    · have d5 : 300 < S := by omega
                      clear hov
                      go_enter Tryz.func83, Tryz.ntmps83
                      go_wp2_with (first
                        | (go_at_call 82; (with_reducible refine (psI _ H1.out).mono ?_); rintro e w' ⟨rfl, rfl⟩)
                        | (go_at_call 82; (with_reducible refine (psI _ H2.out).mono ?_); rintro e w' ⟨rfl, rfl⟩)
                        | (go_at_call 82; (with_reducible refine (psI _ H3.out).mono ?_); rintro e w' ⟨rfl, rfl⟩)
                        | (go_at_call 82; (with_reducible refine (psI _ H4.out).mono ?_); rintro e w' ⟨rfl, rfl⟩))
                      go_ret
                      exact ⟨rtB (by rw [F'.out, decide_eq_false (by omega)]), HBX.out _ _⟩
                    · clear hov
                      go_enter Tryz.func83, Tryz.ntmps83
                      go_wp2_with (first
                        | (go_at_call 82; (with_reducible refine (psI _ H1.out).mono ?_); rintro e w' ⟨rfl, rfl⟩)
                        | (go_at_call 82; (with_reducible refine (psI _ H2.out).mono ?_); rintro e w' ⟨rfl, rfl⟩)
                        | (go_at_call 82; (with_reducible refine (psI _ H3.out).mono ?_); rintro e w' ⟨rfl, rfl⟩)
                        | (go_at_call 82; (with_reducible refine (psI _ H4.out).mono ?_); rintro e w' ⟨rfl, rfl⟩))
                      go_ret
                      exact ⟨rtB F'.out.symm, HBX.out _ _⟩
                · have F' := hd_ (T'.out (by omega))
                  clear F T'
                  go_enter Tryz.func83, Tryz.ntmps83
                  go_wp2_with (first
                    | (go_at_call 82; (with_reducible refine (psI _ H1.out).mono ?_); rintro e w' ⟨rfl, rfl⟩)
                    | (go_at_call 82; (with_reducible refine (psI _ H2.out).mono ?_); rintro e w' ⟨rfl, rfl⟩)
                    | (go_at_call 82; (with_reducible refine (psI _ H3.out).mono ?_); rintro e w' ⟨rfl, rfl⟩)
                    | (go_at_call 82; (with_reducible refine (psI _ H4.out).mono ?_); rintro e w' ⟨rfl, rfl⟩))
                  go_ret
                  exact ⟨rtB F'.out.symm, HBX.out _ _⟩
              · have F' := hd_ (T'.out (by omega))
                clear F T'
                go_enter Tryz.func83, Tryz.ntmps83
                go_wp2_with (first
                  | (go_at_call 82; (with_reducible refine (psI _ H1.out).mono ?_); rintro e w' ⟨rfl, rfl⟩)
                  | (go_at_call 82; (with_reducible refine (psI _ H2.out).mono ?_); rintro e w' ⟨rfl, rfl⟩)
                  | (go_at_call 82; (with_reducible refine (psI _ H3.out).mono ?_); rintro e w' ⟨rfl, rfl⟩)
                  | (go_at_call 82; (with_reducible refine (psI _ H4.out).mono ?_); rintro e w' ⟨rfl, rfl⟩))
                go_ret
                exact ⟨rtB F'.out.symm, HBX.out _ _⟩
            · have F := hd_ (S.out h1 h2 h3 h4 h5' h6)
              have H1 := hd_ h1
              have H2 := hd_ h2
              have H3 := hd_ h3
              have H4 := hd_ h4
              clear h1 h2 h3 h4
              clear N1 N2 N3 N4 N5 S L T
              go_enter Tryz.func83, Tryz.ntmps83
              go_wp2_with (first
                | (go_at_call 82; (with_reducible refine (psI _ H1.out).mono ?_); rintro e w' ⟨rfl, rfl⟩)
                | (go_at_call 82; (with_reducible refine (psI _ H2.out).mono ?_); rintro e w' ⟨rfl, rfl⟩)
                | (go_at_call 82; (with_reducible refine (psI _ H3.out).mono ?_); rintro e w' ⟨rfl, rfl⟩)
                | (go_at_call 82; (with_reducible refine (psI _ H4.out).mono ?_); rintro e w' ⟨rfl, rfl⟩))
              go_ret
              exact ⟨rtB (by rw [F.out]; rfl), HBX.out _ _⟩
        · have h4 : inB cl 0 3 = false := by simpa using h4
          have F := hd_ (N4.out h4)
          have H1 := hd_ h1
          have H2 := hd_ h2
          have H3 := hd_ h3
          have H4 := hd_ h4
          clear h1 h2 h3 h4
          clear N1 N2 N3 N4 N5 S L T
          go_enter Tryz.func83, Tryz.ntmps83
          go_wp2_with (first
            | (go_at_call 82; (with_reducible refine (psI _ H1.out).mono ?_); rintro e w' ⟨rfl, rfl⟩)
            | (go_at_call 82; (with_reducible refine (psI _ H2.out).mono ?_); rintro e w' ⟨rfl, rfl⟩)
            | (go_at_call 82; (with_reducible refine (psI _ H3.out).mono ?_); rintro e w' ⟨rfl, rfl⟩)
            | (go_at_call 82; (with_reducible refine (psI _ H4.out).mono ?_); rintro e w' ⟨rfl, rfl⟩))
          go_ret
          exact ⟨rtB F.out.symm, HBX.out _ _⟩
      · have h3 : inB lg 1 300 = false := by simpa using h3
        have F := hd_ (N3.out h3)
        have H1 := hd_ h1
        have H2 := hd_ h2
        have H3 := hd_ h3
        clear h1 h2 h3
        clear N1 N2 N3 N4 N5 S L T
        go_enter Tryz.func83, Tryz.ntmps83
        go_wp2_with (first
          | (go_at_call 82; (with_reducible refine (psI _ H1.out).mono ?_); rintro e w' ⟨rfl, rfl⟩)
          | (go_at_call 82; (with_reducible refine (psI _ H2.out).mono ?_); rintro e w' ⟨rfl, rfl⟩)
          | (go_at_call 82; (with_reducible refine (psI _ H3.out).mono ?_); rintro e w' ⟨rfl, rfl⟩))
        go_ret
        exact ⟨rtB F.out.symm, HBX.out _ _⟩
    · have h2 : inB wd 1 16 = false := by simpa using h2
      have F := hd_ (N2.out h2)
      have H1 := hd_ h1
      have H2 := hd_ h2
      clear h1 h2
      clear N1 N2 N3 N4 N5 S L T
      go_enter Tryz.func83, Tryz.ntmps83
      go_wp2_with (first
        | (go_at_call 82; (with_reducible refine (psI _ H1.out).mono ?_); rintro e w' ⟨rfl, rfl⟩)
        | (go_at_call 82; (with_reducible refine (psI _ H2.out).mono ?_); rintro e w' ⟨rfl, rfl⟩))
      go_ret
      exact ⟨rtB F.out.symm, HBX.out _ _⟩
  · have h1 : inB st 1 4 = false := by simpa using h1
    have F := hd_ (N1.out h1)
    have H1 := hd_ h1
    clear h1
    clear N1 N2 N3 N4 N5 S L T
    go_enter Tryz.func83, Tryz.ntmps83
    go_wp2_with (first
      | (go_at_call 82; (with_reducible refine (psI _ H1.out).mono ?_); rintro e w' ⟨rfl, rfl⟩))
    go_ret
    exact ⟨rtB F.out.symm, HBX.out _ _⟩
theorem shipCells_len (l : List Ship) : (shC l).length = l.length * 6 := by
  induction l with
  | nil => rfl
  | cons s r ih => simp only [shC, shipV, List.length_append, List.length_cons, List.length_nil, ih]; omega
theorem shipCells_app (l m : List Ship) : shC (l ++ m) = shC l ++ shC m := by
  induction l with
  | nil => rfl
  | cons s r ih => simp only [List.cons_append, shC, ih, List.append_assoc]
theorem shipCells_get (l : List Ship) : ∀ j i, j < l.length -> i < 6 -> (shC l)[j * 6 + i]? = (shipV (l.getD j Ship.zero))[i]? := by
  induction l with
  | nil => intro j i hj; simp at hj
  | cons s r ih =>
    intro j i hj hi
    have hl : (shipV s).toList.length = 6 := rfl
    cases j with
    | zero =>
      simp only [shC, Nat.zero_mul, Nat.zero_add, List.getD_cons_zero]
      rw [List.getElem?_append_left (by omega)]; simp
    | succ j =>
      simp only [shC, List.getD_cons_succ]
      rw [List.getElem?_append_right (by omega), hl, show (j + 1) * 6 + i - 6 = j * 6 + i by omega]
      exact ih j i (by simpa using hj) hi
theorem ships_at {w : World} {A : Option Addr} {l : List Ship} (h : Sl w 6 A l.length (shC l)) (hl : 0 < l.length) :
    ∃ b off, A = some ⟨b, off, none⟩ /\ b < w.heap.size /\
      ∀ j, j < l.length -> w.cell? ⟨b, off + j * 6, none⟩ = some (.int .i64 (l.getD j Ship.zero).state) /\ w.cell? ⟨b, off + j * 6 + 1, none⟩ = some (.int .i64 (l.getD j Ship.zero).wide) /\
        w.cell? ⟨b, off + j * 6 + 2, none⟩ = some (.int .i64 (l.getD j Ship.zero).long) /\ w.cell? ⟨b, off + j * 6 + 3, none⟩ = some (.int .i64 (l.getD j Ship.zero).cls) /\
        w.cell? ⟨b, off + j * 6 + 4, none⟩ = some (.int .i64 (l.getD j Ship.zero).since) /\ w.cell? ⟨b, off + j * 6 + 5, none⟩ = some (.int .i64 (l.getD j Ship.zero).queued) := by
  obtain ⟨b, off, e, hc⟩ := h.2 (by omega)
  obtain ⟨b', off', e', hlt⟩ := h.lt (by omega)
  rw [e] at e'
  injection e' with e'
  injection e' with e1 e2
  subst e1
  refine ⟨b, off, e, hlt, fun j hj => ?_⟩
  have g := fun i (hi : i < 6) => (hc (j * 6 + i) (by omega)).trans (shipCells_get l j i hj hi)
  exact ⟨g 0 (by omega), g 1 (by omega), g 2 (by omega), g 3 (by omega), g 4 (by omega), g 5 (by omega)⟩
def portA (p : Port) (A : Option Addr) (c : Nat) : Array Value :=
  #[.int .i64 p.now, .slice A p.ships.length c, .int .i64 (p.keep 0).wide, .int .i64 (p.keep 0).fr, .int .i64 (p.keep 0).to, .int .i64 (p.keep 1).wide, .int .i64 (p.keep 1).fr, .int .i64 (p.keep 1).to,
    .int .i64 (p.keep 2).wide, .int .i64 (p.keep 2).fr, .int .i64 (p.keep 2).to, .int .i64 (p.keep 3).wide, .int .i64 (p.keep 3).fr, .int .i64 (p.keep 3).to, .int .i64 p.shut, .int .i64 p.next]
def keptA (p : Port) : Array Value :=
  #[.int .i64 (p.keep 0).wide, .int .i64 (p.keep 0).fr, .int .i64 (p.keep 0).to, .int .i64 (p.keep 1).wide, .int .i64 (p.keep 1).fr, .int .i64 (p.keep 1).to,
    .int .i64 (p.keep 2).wide, .int .i64 (p.keep 2).fr, .int .i64 (p.keep 2).to, .int .i64 (p.keep 3).wide, .int .i64 (p.keep 3).fr, .int .i64 (p.keep 3).to]
structure KeptWf (k : Kept) : Prop where
  wide : i64 k.wide
  fr : i64 k.fr
  to : i64 k.to
structure PWf (p : Port) : Prop where
  now : i64 p.now
  shut : i64 p.shut
  next : i64 p.next
  ship : ∀ i, i < p.ships.length -> ShipWf (p.ship i)
  keep : ∀ i, KeptWf (p.keep i)
  four : p.kept.length = 4
  len : p.ships.length <= maxLen
def InP (w : World) (p : Port) (A : Option Addr) : Prop := Sl w 6 A p.ships.length (shC p.ships)
theorem InP.below {w w' : World} {p : Port} {A : Option Addr} (h : InP w p A) (hb : Below w.heap.size w w') : InP w' p A := Sl.below h hb
theorem fair_wf {p : Port} (h : Plain.Fair p) : PWf p := by
  have hn := h.now
  have hx := h.next
  have hs := h.shut
  refine ⟨by unfold i64; omega, by unfold i64; omega, by unfold i64; omega, fun i hi => ?_, fun i => ?_, h.four, by have := h.len; unfold maxLen; omega⟩
  · obtain ⟨s, q⟩ := h.ship i hi
    have h1 := s.state; have h2 := s.wide; have h3 := s.long; have h4 := s.cls; have h5 := s.queued
    have h6 : 0 <= (p.ship i).since /\ (p.ship i).since <= 300 := by
      by_cases c : (p.ship i).state = 3
      · have := s.lies c; omega
      · have := s.other c; omega
    exact ⟨by unfold i64; omega, by unfold i64; omega, by unfold i64; omega, by unfold i64; omega, by unfold i64; omega, by unfold i64; omega⟩
  · by_cases hi : i < 4
    · have := h.kept i hi
      unfold KeptOk at this
      exact ⟨by unfold i64; omega, by unfold i64; omega, by unfold i64; omega⟩
    · have e : p.keep i = Kept.zero := by
        unfold Port.keep
        rw [List.getD_eq_getElem?_getD, List.getElem?_eq_none (by rw [h.four]; omega)]; rfl
      rw [e]
      exact ⟨by unfold i64 Kept.zero; simp, by unfold i64 Kept.zero; simp, by unfold i64 Kept.zero; simp⟩
def PortAt (w : World) (g : Nat) (p : Port) (A : Option Addr) (c : Nat) : Prop := w.heap[g]? = some (.cells (portA p A c) 36 (0, 0))
section
variable {w w' : World} {g : Nat} {p : Port} {A : Option Addr} {c : Nat}
theorem PortAt.lt (h : PortAt w g p A c) : g < w.heap.size := (Array.getElem?_eq_some_iff.1 h).1
theorem PortAt.new (w : World) (p : Port) (A : Option Addr) (c : Nat) : PortAt (w.alloc (.cells (portA p A c) 36)) w.heap.size p A c := heap_alloc_new w _
theorem PortAt.below {n : Nat} (h : PortAt w g p A c) (hb : Below n w w') (hn : g < n) : PortAt w' g p A c := (hb.block g hn).trans h
theorem PortAt.alloc (h : PortAt w g p A c) (o : Obj) : PortAt (w.alloc o) g p A c := (Below.heap_alloc w o g h.lt).trans h
theorem PortAt.drewN (h : PortAt w g p A c) (n : Nat) : PortAt (w.drewN n) g p A c := h
theorem PortAt.cell (h : PortAt w g p A c) (j : Nat) : w.cell? ⟨g, j, none⟩ = (portA p A c)[j]? := by
  rw [cell_of_row w g j _ _ _ h]
theorem PortAt.frozen (h : PortAt w g p A c) (j : Nat) : w.frozen? ⟨g, j, none⟩ = false := by
  unfold PortAt at h; simp [World.frozen?, h]
theorem PortAt.now (h : PortAt w g p A c) : w.cell? ⟨g, 0, none⟩ = some (.int .i64 p.now) := h.cell 0
theorem PortAt.ships (h : PortAt w g p A c) : w.cell? ⟨g, 1, none⟩ = some (.slice A p.ships.length c) := h.cell 1
theorem PortAt.shut (h : PortAt w g p A c) : w.cell? ⟨g, 14, none⟩ = some (.int .i64 p.shut) := h.cell 14
theorem PortAt.next (h : PortAt w g p A c) : w.cell? ⟨g, 15, none⟩ = some (.int .i64 p.next) := h.cell 15
end
section
variable {ops : Array Oper} {rest : List Oper} {o : Oper} {a : Act} {w : World} {Q : Exit -> Act -> World -> Prop}
theorem port_size : (Tryz.prog.info? 36).map (·.size) = some 16 := by kernel_rfl
theorem wLP {x : Operand} {g : Nat} {p : Port} {A : Option Addr} {c : Nat} (hg : o.guard = none) (ho : o.op = .load 36 x)
    (hx : a.eval x = .pointer (some ⟨g, 0, none⟩)) (hf : PortAt w g p A c)
    (h : wpList Tryz.prog ops Q rest (a.put o.dst (.agg (portA p A c))) w) : wpList Tryz.prog ops Q (o :: rest) a w :=
  wpList_load_row hg _ x ho g hx _ _ _ _ hf Tryz.underlying36 rfl port_size h
theorem index_kept (p : Port) (k : Nat) (hk : k < 4) (w : World) : (Instr.index 34 (.agg (keptA p)) (.int .i64 k)).run Tryz.prog w = .ok (.agg #[.int .i64 (p.keep k).wide, .int .i64 (p.keep k).fr, .int .i64 (p.keep k).to]) w := by
  rcases (by omega : k = 0 \/ k = 1 \/ k = 2 \/ k = 3) with rfl | rfl | rfl | rfl <;> kernel_rfl
theorem wIK {x y : Operand} {p : Port} {k : Nat} (hg : o.guard = none) (ho : o.op = .index 34 x y) (hx : a.eval x = .agg (keptA p)) (hy : a.eval y = .int .i64 k) (hk : k < 4)
    (h : wpList Tryz.prog ops Q rest (a.put o.dst (.agg #[.int .i64 (p.keep k).wide, .int .i64 (p.keep k).fr, .int .i64 (p.keep k).to])) w) : wpList Tryz.prog ops Q (o :: rest) a w := by
  refine wpList_plain hg fun K hK => ?_
  unfold Oper.wp execOp
  simp only [ho, hx, hy, Sem.run_bind, index_kept p k hk, Sem.run_pure, Result.andThen_ok]
  exact hK _ _ h
end
end Go.Proofs.YtifmdkcpbajdcabGreatDoor
namespace Go.Proofs.YtifmdkcpbajdcabGreatDoor
open Go.RowKit Go.Proofs Plain Go.Maps
theorem seenKey : Keyed Tryz.prog 3 := int_keyed Tryz.underlying3
theorem zero_bool (w : World) : (zeroValue 4).run Tryz.prog w = .ok (.bool false) w := by kernel_rfl
def Seen (w : World) (b n : Nat) (l : List Int) : Prop :=
  ∃ D : DataW Unit, w.ownsMap Tryz.prog 3 (plainElem Tryz.prog 4) b n D /\ IsMap D /\ ∀ q : Int, D.atKey (.int .i64 q) (.lit (.bool false)) = .lit (.bool (decide (q ∈ l)))
section
variable {w w' : World} {b n : Nat} {l : List Int}
theorem plainBool_inv {H : Type} {P : Program} {e : TypeId} (he : P.underlying e = some .bool) {v : Value} {z : DataW H × List MemPlace} (h : plainElem P e v = some z) : ∃ x, v = .bool x /\ z = (.lit (.bool x), []) := by
  unfold plainElem at h
  rw [he] at h
  cases v <;> simp at h
  exact ⟨_, rfl, h.symm⟩
theorem Seen.made (w : World) : Seen (w.alloc (.map #[] 0)) w.heap.size 0 [] :=
  ⟨.map [], World.ownsMap_made _ _ _ _, isMap_empty, fun q => by simp [DataW.atKey]⟩
theorem Seen.alloc (h : Seen w b n l) (o : Obj) : Seen (w.alloc o) b n l := by obtain ⟨D, a, c, d⟩ := h; exact ⟨D, a.alloc o, c, d⟩
theorem Seen.drewN (h : Seen w b n l) (k : Nat) : Seen (w.drewN k) b n l := h
theorem Seen.lt (h : Seen w b n l) : b < w.heap.size := by obtain ⟨D, a, _⟩ := h; exact a.lt
theorem Seen.below (h : Seen w b n l) (hb : Below w.heap.size w w') : Seen w' b n l := by
  obtain ⟨D, a, c, d⟩ := h
  have hlt := a.lt
  obtain ⟨es, clock, h1, h2, h3, h4⟩ := a
  exact ⟨D, ⟨es, clock, (hb.block b hlt).trans h1, h2, h3, h4⟩, c, d⟩
theorem Seen.look (h : Seen w b n l) {q : Int} (hq : i64 q) : (Instr.lookup 117 (.map (some b)) (.int .i64 q) false).run Tryz.prog w = .ok (.bool (decide (q ∈ l))) w := by
  obtain ⟨D, a, c, d⟩ := h
  have hwf : (Lit.int .i64 q).wf = true := WalkArith.wf_i64 hq
  obtain ⟨v, ps, hrun, hv⟩ := a.lookup seenKey Tryz.underlying117 (zero_bool w) (plainElem_bool Tryz.underlying4 false) (keyOf_int_mk Tryz.underlying3 hwf)
  rw [d q] at hv
  rw [hrun]
  obtain ⟨x, rfl, hx⟩ := plainBool_inv Tryz.underlying4 hv
  simp only [Prod.mk.injEq, DataW.lit.injEq, Lit.bool.injEq] at hx
  rw [hx.1]
section
variable {ops : Array Oper} {rest : List Oper} {o : Oper} {a : Act} {Q : Exit -> Act -> World -> Prop}
theorem wpList_put_seen {m x v : Operand} {q : Int} (hg : o.guard = none) (ho : o.op = Op.mapUpdate 117 m x v) (hm : a.eval m = .map (some b)) (hx : a.eval x = .int .i64 q) (hv : a.eval v = .bool true)
    (h : Seen w b n l) (hn : n < 1000) (hq : i64 q) (hK : ∀ w', Seen w' b (n + 1) (q :: l) -> w.grownBy w' (some b) -> wpList Tryz.prog ops Q rest (a.put o.dst undef) w') : wpList Tryz.prog ops Q (o :: rest) a w := by
  obtain ⟨D, hown, c, d⟩ := h
  have hwf : (Lit.int .i64 q).wf = true := WalkArith.wf_i64 hq
  refine wpList_mapUpdate_own w hg m x v 117 ho 3 4 seenKey Tryz.underlying117 _ b n D hm hown (by unfold maxLen; omega) _ _ (.int .i64 q) hx hv (keyOf_int_mk Tryz.underlying3 hwf) (.lit (.bool true)) [] (plainElem_bool Tryz.underlying4 true) fun w' ho' hg' => ?_
  refine hK w' ⟨_, ho', c.put _ _, fun p => ?_⟩ hg'
  by_cases e : p = q
  · subst e
    rw [atKey_put_same c (by trivial)]; simp
  · rw [atKey_put_other (by simpa using e), d p]; simp [e]
end
theorem below_seen {B : Nat} {a0 : World} (hb : Below B a0 w) (hg : w.grownBy w' (some b)) (h1 : B <= w.heap.size) (h2 : B <= b) : Below B a0 w' := hb.grown hg h1 fun j hj => by cases hj; exact h2
end
end Go.Proofs.YtifmdkcpbajdcabGreatDoor
namespace Go.Proofs.YtifmdkcpbajdcabGreatDoor
open Go.RowKit Go.Proofs Plain
set_option maxRecDepth 100000 in
theorem run_kept_neq (a b c x y z : Int) (w : World) : (binOp .neq 33 (.agg #[.int .i64 a, .int .i64 b, .int .i64 c]) (.agg #[.int .i64 x, .int .i64 y, .int .i64 z])).run Tryz.prog w = .ok (.bool (!(decide (a = x) && decide (b = y) && decide (c = z)))) w := by
  by_cases h1 : a = x
  · by_cases h2 : b = y
    · by_cases h3 : c = z
      · subst h1; subst h2; subst h3
        simp [go_sem]
      · subst h1; subst h2
        simp [go_sem, h3]
    · subst h1
      simp [go_sem, h2]
  · simp [go_sem, h1]
theorem kept_guard : Tryz.prog.eqGuardType Tryz.prog.depth 33 = false := by kernel_rfl
section
variable {ops : Array Oper} {rest : List Oper} {o : Oper} {a : Act} {w : World} {Q : Exit -> Act -> World -> Prop} {x y : Operand} {k1 k2 k3 m1 m2 m3 : Int} {r : Bool}
theorem wpList_kept_neq (hg : o.guard = none) (ho : o.op = .binOp .neq 33 x y 33) (hx : a.eval x = .agg #[.int .i64 k1, .int .i64 k2, .int .i64 k3]) (hy : a.eval y = .agg #[.int .i64 m1, .int .i64 m2, .int .i64 m3])
    (hr : (!(decide (k1 = m1) && decide (k2 = m2) && decide (k3 = m3))) = r) (h : wpList Tryz.prog ops Q rest (a.put o.dst (.bool r)) w) : wpList Tryz.prog ops Q (o :: rest) a w := by
  subst hr
  refine wpList_plain hg fun K hK => ?_
  unfold Oper.wp execOp
  simp only [ho, hx, hy, Sem.run_bind, run_eqGuard_agg w .neq 33 x y _ _ kept_guard, Result.andThen_ok, run_kept_neq, Sem.run_pure]
  exact hK _ _ h
end
end Go.Proofs.YtifmdkcpbajdcabGreatDoor
namespace Go.Proofs.YtifmdkcpbajdcabGreatDoor
open Go.RowKit Go.Proofs Plain
def BoxAt (w : World) (g : Nat) (vs : Array Value) : Prop := w.heap[g]? = some (.cells vs 36 (0, 0))
section
variable {w w' : World} {g : Nat} {vs : Array Value}
theorem BoxAt.lt (h : BoxAt w g vs) : g < w.heap.size := (Array.getElem?_eq_some_iff.1 h).1
theorem BoxAt.new (w : World) (vs : Array Value) : BoxAt (w.alloc (.cells vs 36)) w.heap.size vs := heap_alloc_new w _
theorem BoxAt.below {n : Nat} (h : BoxAt w g vs) (hb : Below n w w') (hn : g < n) : BoxAt w' g vs := (hb.block g hn).trans h
theorem BoxAt.alloc (h : BoxAt w g vs) (o : Obj) : BoxAt (w.alloc o) g vs := (Below.heap_alloc w o g h.lt).trans h
theorem BoxAt.cell (h : BoxAt w g vs) (j : Nat) : w.cell? ⟨g, j, none⟩ = vs[j]? := by rw [cell_of_row w g j _ _ _ h]
end
theorem BoxAt.all {w : World} {g : Nat} {v0 v1 v2 v3 v4 v5 v6 v7 v8 v9 v10 v11 v12 v13 v14 v15 : Value} (h : BoxAt w g #[v0, v1, v2, v3, v4, v5, v6, v7, v8, v9, v10, v11, v12, v13, v14, v15]) : w.cell? ⟨g, 0, none⟩ = some v0 /\ w.cell? ⟨g, 1, none⟩ = some v1 /\ w.cell? ⟨g, 2, none⟩ = some v2 /\ w.cell? ⟨g, 3, none⟩ = some v3 /\ w.cell? ⟨g, 4, none⟩ = some v4 /\ w.cell? ⟨g, 5, none⟩ = some v5 /\ w.cell? ⟨g, 6, none⟩ = some v6 /\ w.cell? ⟨g, 7, none⟩ = some v7 /\ w.cell? ⟨g, 8, none⟩ = some v8 /\ w.cell? ⟨g, 9, none⟩ = some v9 /\ w.cell? ⟨g, 10, none⟩ = some v10 /\ w.cell? ⟨g, 11, none⟩ = some v11 /\ w.cell? ⟨g, 12, none⟩ = some v12 /\ w.cell? ⟨g, 13, none⟩ = some v13 /\ w.cell? ⟨g, 14, none⟩ = some v14 /\ w.cell? ⟨g, 15, none⟩ = some v15 :=
  ⟨h.cell 0, h.cell 1, h.cell 2, h.cell 3, h.cell 4, h.cell 5, h.cell 6, h.cell 7, h.cell 8, h.cell 9, h.cell 10, h.cell 11, h.cell 12, h.cell 13, h.cell 14, h.cell 15⟩
section
variable {ops : Array Oper} {rest : List Oper} {o : Oper} {a : Act} {w : World} {Q : Exit -> Act -> World -> Prop}
theorem wpList_load_box {x : Operand} {g : Nat} {vs : Array Value} (hg : o.guard = none) (ho : o.op = .load 36 x)
    (hx : a.eval x = .pointer (some ⟨g, 0, none⟩)) (hf : BoxAt w g vs) (hs : vs.size = 16)
    (h : wpList Tryz.prog ops Q rest (a.put o.dst (.agg vs)) w) : wpList Tryz.prog ops Q (o :: rest) a w :=
  wpList_load_row hg _ x ho g hx _ _ _ _ hf Tryz.underlying36 rfl (by rw [hs]; exact port_size) h
end
end Go.Proofs.YtifmdkcpbajdcabGreatDoor
namespace Go.Proofs.YtifmdkcpbajdcabGreatDoor
open Go.RowKit Go.Proofs Plain
open Go.Lib renaming hid -> hd_
theorem dirt_info : (Tryz.prog.info? 154).map (fun i => (i.zero, i.size, i.bytes)) = some (some (.agg #[.int .i64 0, .int .i64 0]), 2, 16) := by kernel_rfl
def OwnD (w : World) (base : Nat) (v : Value) (d : Dirt) : Prop := w.ownsRow base 154 2 v d.length (stC d)
section
variable {ops : Array Oper} {rest : List Oper} {o : Oper} {a : Act} {w : World} {Q : Exit -> Act -> World -> Prop}
theorem wpList_append_dirt (hgd : o.guard = none) (s x : Operand) (ho : o.op = .call { callee := .builtin .append, args := #[s, x], argTypes := #[118, 118] })
    (base : Nat) (v : Value) (l : Dirt) (hs : a.eval s = v) (hown : OwnD w base v l) (g c : Nat) (t y : Int) (hx : a.eval x = .slice (some ⟨g, 0, none⟩) 1 c)
    (hg : w.heap[g]? = some (.cells #[.int .i64 t, .int .i64 y] 154 (0, 0))) (hl : l.length <= 100000) (hb : base <= w.heap.size)
    (h : ∀ v' w', OwnD w' base v' (l ++ [(t, y)]) -> w.grownBy w' v.ownBlock -> (v'.ownBlock = v.ownBlock \/ v'.ownBlock = some w.heap.size) -> wpList Tryz.prog ops Q rest (a.put o.dst v') w') : wpList Tryz.prog ops Q (o :: rest) a w := by
  obtain ⟨i0, hi0, hz0, hzs, hzb⟩ := info_parts dirt_info
  refine wpList_append_own_at w hgd s x 118 ho base 154 i0 _ 2 16 Tryz.underlying118 hi0 hz0 hzs hzb rfl (by decide) v l.length _ hs hown ⟨g, 0, none⟩ 1 c [.int .i64 t, .int .i64 y] hx rfl (news_row hg (by simp [Value.oneCell'])) (by simp [Value.oneCell']) (by unfold maxLen; omega) (by omega) hb fun v' w' ho' hg' _ hk => ?_
  exact h v' w' (by unfold OwnD; rw [stepCells_app, List.length_append]; exact ho') hg' hk
end
structure DirtAt (w : World) (g base : Nat) (v : Value) (d : Dirt) : Prop where
  at_ : w.heap[g]? = some (.cells #[v] 120 (0, 0))
  lt : g < base
  own : OwnD w base v d
structure Adds (g : Nat) (w w' : World) (v v' : Value) : Prop where
  os : w'.os = w.os
  tape : w'.tape = w.tape
  output : w'.output = w.output
  size : w.heap.size <= w'.heap.size
  block : ∀ k, k < w.heap.size -> k ≠ g -> some k ≠ v.ownBlock -> w'.heap[k]? = w.heap[k]?
  own : v'.ownBlock = v.ownBlock \/ ∃ k, v'.ownBlock = some k /\ w.heap.size <= k
section
variable {g base : Nat} {w w' w'' : World} {v v' v'' : Value} {d d' : Dirt}
theorem Adds.of_below (h : Below w.heap.size w w') : Adds g w w' v v := ⟨h.os, h.tape, h.output, h.size, fun k hk _ _ => h.block k hk, .inl rfl⟩
theorem Adds.refl : Adds g w w v v := .of_below (Below.refl _ _)
theorem Adds.trans (h : Adds g w w' v v') (k : Adds g w' w'' v' v'') : Adds g w w'' v v'' := by
  refine ⟨k.os.trans h.os, k.tape.trans h.tape, k.output.trans h.output, Nat.le_trans h.size k.size, fun b hb h1 h2 => ?_, ?_⟩
  · refine (k.block b (Nat.lt_of_lt_of_le hb h.size) h1 ?_).trans (h.block b hb h1 h2)
    rcases h.own with e | ⟨j, e, hj⟩
    · rw [e]; exact h2
    · rw [e]; intro h3; cases h3; omega
  · rcases k.own with e | ⟨j, e, hj⟩
    · rcases h.own with e' | ⟨j, e', hj⟩
      · exact .inl (e.trans e')
      · exact .inr ⟨j, e.trans e', hj⟩
    · exact .inr ⟨j, e, Nat.le_trans h.size hj⟩
theorem OwnD.block (h : OwnD w base v d) : ∀ k, v.ownBlock = some k -> base <= k /\ k < w.heap.size := by
  intro k hk
  rcases h.2 with ⟨rfl, _⟩ | ⟨j, cap, cur, rfl, hb, hj, _⟩
  · cases hk
  · simp only [Value.ownBlock, Option.some.injEq] at hk
    subst hk
    exact ⟨hb, (Array.getElem?_eq_some_iff.1 hj).1⟩
theorem OwnD.alloc (h : OwnD w base v d) (o : Obj) : OwnD (w.alloc o) base v d := World.ownsRow.alloc h o
theorem DirtAt.size (h : DirtAt w g base v d) : g < w.heap.size := (Array.getElem?_eq_some_iff.1 h.at_).1
theorem DirtAt.below (h : DirtAt w g base v d) (hb : Below w.heap.size w w') : DirtAt w' g base v d :=
  ⟨(hb.block g h.size).trans h.at_, h.lt, oBl h.own hb⟩
theorem DirtAt.alloc (h : DirtAt w g base v d) (o : Obj) : DirtAt (w.alloc o) g base v d := h.below ((Below.refl _ _).alloc (Nat.le_refl _) _)
theorem DirtAt.drewN (h : DirtAt w g base v d) (n : Nat) : DirtAt (w.drewN n) g base v d := ⟨h.at_, h.lt, h.own⟩
theorem DirtAt.beside (h : DirtAt w g base v d) (p : Addr) (u : Value) (hp : p.block < g) : DirtAt (w.setCell p u) g base v d :=
  ⟨(Below.heap_setCell w p u g (by omega)).trans h.at_, h.lt, ownsRow_setCell_below h.own (by have := h.lt; omega) u⟩
theorem Adds.below {B : Nat} (h : Adds g w w' v v') (hd : DirtAt w g base v d) (hB : B <= g) : Below B w w' :=
  ⟨h.os, h.tape, h.output, h.size, fun k hk => h.block k (by have := hd.size; omega) (by omega) (fun e => by have := hd.own.block k e.symm; have := hd.lt; omega)⟩
def Off (w : World) (g : Nat) (v : Value) (A : Option Addr) (n : Nat) : Prop := 0 < n -> ∃ a, A = some a /\ a.block < w.heap.size /\ a.block ≠ g /\ some a.block ≠ v.ownBlock
theorem Off.adds {A : Option Addr} {n : Nat} (h : Off w g v A n) (k : Adds g w w' v v') : Off w' g v' A n := fun hn => by
  obtain ⟨a, e, h1, h2, h3⟩ := h hn
  refine ⟨a, e, Nat.lt_of_lt_of_le h1 k.size, h2, ?_⟩
  rcases k.own with e' | ⟨j, e', hj⟩
  · rw [e']; exact h3
  · rw [e']; intro h4; cases h4; omega
theorem Off.size {A : Option Addr} {n : Nat} (h : Off w g v A n) (k : w.heap.size <= w'.heap.size) : Off w' g v A n := fun hn => by
  obtain ⟨a, e, h1, h2, h3⟩ := h hn
  exact ⟨a, e, Nat.lt_of_lt_of_le h1 k, h2, h3⟩
theorem Off.low {A : Option Addr} {n size : Nat} {xs : List Value} {u : World} (h : Sl u size A n xs) (hs : 0 < size) (hu : u.heap.size <= g) (hd : DirtAt w g base v d) : Off w g v A n := fun hn => by
  obtain ⟨b, off, e, hlt⟩ := h.lt (Nat.mul_pos hn hs)
  refine ⟨_, e, ?_, ?_, fun e' => ?_⟩
  · have := hd.size; show b < _; omega
  · show b ≠ _; omega
  · have := hd.own.block b e'.symm; have := hd.lt; omega
theorem Off.new {A : Option Addr} {n size : Nat} {xs : List Value} (h : Sl w' size A n xs) (hs : 0 < size) (hf : Fr w.heap.size A) (hd : DirtAt w g base v d) : Off w' g v A n := fun hn => by
  obtain ⟨b, off, e, hlt⟩ := h.lt (Nat.mul_pos hn hs)
  subst e
  have h1 : w.heap.size <= b := hf _ rfl
  refine ⟨_, rfl, hlt, ?_, fun e' => ?_⟩
  · have := hd.size; show b ≠ _; omega
  · have := hd.own.block b e'.symm; omega
theorem Sl.adds {A : Option Addr} {n size : Nat} {xs : List Value} (h : Sl w size A n xs) (ho : Off w g v A n) (k : Adds g w w' v v') : Sl w' size A n xs := by
  refine ⟨h.1, fun hn => ?_⟩
  obtain ⟨b, off, e, hc⟩ := h.2 hn
  obtain ⟨a, e', h1, h2, h3⟩ := ho (Nat.pos_of_mul_pos_right hn)
  rw [e] at e'; cases e'
  refine ⟨b, off, e, fun j hj => ?_⟩
  rw [<- hc j hj]
  exact World.cell?_of_block (w := w) (k.block b h1 h2 h3)
end
def RetDirt (g base : Nat) (v : Value) (d : Dirt) (w : World) (e : Ending) (w' : World) : Prop :=
  e = .returned (.tuple #[]) /\ ∃ v', DirtAt w' g base v' d /\ Adds g w w' v v'
theorem DirtAt.form {g base : Nat} {v : Value} {d : Dirt} {w : World} (h : DirtAt w g base v d) : ∃ B c, v = .slice B d.length c := own_form h.own
theorem DirtAt.frozen {g base : Nat} {v : Value} {d : Dirt} {w : World} (h : DirtAt w g base v d) : w.frozen? ⟨g, 0, none⟩ = false := by
  have := h.at_; simp [World.frozen?, this]
theorem DirtAt.cell {g base : Nat} {v : Value} {d : Dirt} {w : World} (h : DirtAt w g base v d) : w.cell? ⟨g, 0, none⟩ = some v := cell_of_row _ _ 0 _ _ _ h.at_
theorem dirt_grown {g base : Nat} {v v' : Value} {d d' : Dirt} {w w1 w' : World} (h : DirtAt w1 g base v d) (hb : Below w.heap.size w w1) (hlt : g < w.heap.size) (ho : OwnD w' base v' d') (hg : w1.grownBy w' v.ownBlock)
    (hk : v'.ownBlock = v.ownBlock \/ v'.ownBlock = some w1.heap.size) :
    DirtAt (w'.setCell ⟨g, 0, none⟩ v') g base v' d' /\ Adds g w (w'.setCell ⟨g, 0, none⟩ v') v v' := by
  have hne : some g ≠ v.ownBlock := fun e => by have := h.own.block g e.symm; have := h.lt; omega
  have hat : w'.heap[g]? = some (.cells #[v] 120 (0, 0)) := (hg.block g h.size hne).trans h.at_
  have hr := setCell_eq_setRow w' g 0 #[v] 120 (0, 0) v' hat
  refine ⟨⟨?_, h.lt, ownsRow_setCell_below ho (by show g < base; exact h.lt) v'⟩, ⟨?_, ?_, ?_, ?_, ?_, ?_⟩⟩
  · rw [hr]; exact setRow_heap w' g _ _ _ _ hat
  · exact (hg.os).trans hb.os
  · exact (hg.tape).trans hb.tape
  · exact (hg.output).trans hb.output
  · show _ <= (w'.setCell _ _).heap.size
    have := hg.size; have := hb.size
    simp [World.setCell]; omega
  · intro k hk1 hk2 hk3
    exact (Below.heap_setCell w' ⟨g, 0, none⟩ v' k hk2).trans ((hg.block k (by have := hb.size; omega) hk3).trans (hb.block k hk1))
  · rcases hk with e | e
    · exact .inl e
    · exact .inr ⟨_, e, hb.size⟩
theorem cell_grown {g base : Nat} {v : Value} {d : Dirt} {w1 w' : World} (h : DirtAt w1 g base v d) (hg : w1.grownBy w' v.ownBlock) : w'.cell? ⟨g, 0, none⟩ = some v /\ w'.frozen? ⟨g, 0, none⟩ = false := by
  have hne : some g ≠ v.ownBlock := fun e => by have := h.own.block g e.symm; have := h.lt; omega
  exact ⟨(World.cell?_of_block (w := w1) (hg.block g h.size hne)).trans h.cell, (World.frozen?_of_block (w := w1) (hg.block g h.size hne)).trans h.frozen⟩
set_option maxRecDepth 100000 in
theorem dirt_add (g base : Nat) (v : Value) (d : Dirt) (fr to : Int) (w : World) (h : DirtAt w g base v d) (hl : d.length <= 50000) (hb : base <= w.heap.size) :
    Calls Tryz.prog 73 #[.pointer (some ⟨g, 0, none⟩), .int .i64 fr, .int .i64 to] w (RetDirt g base v (addD d fr to) w) := by
  have c0 := h.cell
  obtain ⟨B, c, hv⟩ := h.form
  by_cases hlt : fr < to
  · have h1 : decide (fr < to) = true := by simpa using hlt
    have hgs := h.size
    have hn := hd_ h.own
    have HH := hd_ h
    subst hv
    go_enter Tryz.func73, Tryz.ntmps73
    go_wp2_with (refine wpList_append_dirt rfl _ _ rfl base (.slice B d.length c) d rfl (OwnD.alloc HH.out.own _) _ _ fr to rfl (heap_alloc_new _ _) (by omega) (by simp; omega) ?_; intro v' w' ho hg hk; obtain ⟨B', c', rfl⟩ := own_form ho; obtain ⟨k1, k2⟩ := cell_grown (HH.out.alloc _) hg; have HR := hd_ (dirt_grown (w := w) (HH.out.alloc _) ((Below.refl _ _).alloc (Nat.le_refl _) _) HH.out.size ho hg hk))
    go_end0
    obtain ⟨r1, r2⟩ := HR.out
    rw [List.length_append] at r1 r2
    exact ⟨rfl, _, by unfold addD; rw [if_pos hlt]; exact r1, r2⟩
  · have h1 : decide (fr < to) = false := by simpa using hlt
    subst hv
    go_enter Tryz.func73, Tryz.ntmps73
    go_wp2
    go_end0
    exact ⟨rfl, _, by unfold addD; rw [if_neg (by omega)]; exact h, .refl⟩
end Go.Proofs.YtifmdkcpbajdcabGreatDoor
