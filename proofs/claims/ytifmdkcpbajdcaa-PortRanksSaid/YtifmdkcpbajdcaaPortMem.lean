/- Ports in memory: their cells; whether a ship may be one. -/
import Derived.Test.YtifmdkcpbajdcaaSpanW1
import Derived.Laws.ResultCell
import Derived.Test.YtifmdkcpbajdcaaShipPlain
namespace Go.Proofs.Ytifmdkcpbajdcaa
open Go.RowKit Go.Proofs Plain

def i64 (n : Int) : Prop := -9223372036854775808 ≤ n ∧ n ≤ 9223372036854775807

structure ShipWf (s : Ship) : Prop where
  state : i64 s.state
  wide : i64 s.wide
  long : i64 s.long
  cls : i64 s.cls
  since : i64 s.since
  queued : i64 s.queued

def shipV (s : Ship) : Array Value := #[.int .i64 s.state, .int .i64 s.wide, .int .i64 s.long, .int .i64 s.cls, .int .i64 s.since, .int .i64 s.queued]

def shipCells : List Ship → List Value
  | [] => []
  | s :: r => (shipV s).toList ++ shipCells r

def keptV (k : Kept) : List Value := [.int .i64 k.wide, .int .i64 k.fr, .int .i64 k.to]

theorem psmall_any (n lo hi : Int) (w : World) :
    Calls Try.prog 46 #[.int .i64 n, .int .i64 lo, .int .i64 hi] w fun e w' => e = .returned (.bool (inB n lo hi)) ∧ w' = w := by
  by_cases h : lo ≤ n
  all_goals
    go_enter Try.func46, Try.ntmps46
    go_wp2_with fail
    go_ret
    exact ⟨ret_bool (by rw [Bool.eq_iff_iff]; simp [inB]; omega), rfl⟩

theorem psmall_is {n lo hi : Int} {b : Bool} (w : World) (h : inB n lo hi = b) :
    Calls Try.prog 46 #[.int .i64 n, .int .i64 lo, .int .i64 hi] w fun e w' => e = .returned (.bool b) ∧ w' = w := by
  subst h; exact psmall_any n lo hi w

theorem small_box {B : Nat} {w : World} {v : Array Value} {T : TypeId} (h : B ≤ w.heap.size) : Below B w (w.alloc (.cells v T)) := (Below.refl _ _).alloc h _

set_option maxHeartbeats 4000000 in
theorem goodShip_any (s : Ship) (now : Int) (w : World) (hs : ShipWf s) (hn : i64 now) :
    Calls Try.prog 29 #[.agg (shipV s), .int .i64 now] w fun e w' => e = .returned (.bool (shipB s now)) ∧ Below w.heap.size w w' := by
  obtain ⟨⟨p1, p2⟩, ⟨p3, p4⟩, ⟨p5, p6⟩, ⟨p7, p8⟩, ⟨p9, p10⟩, ⟨p11, p12⟩⟩ := hs
  obtain ⟨p13, p14⟩ := hn
  have N1 := Lib.hid (@ship_no1 s now)
  have N2 := Lib.hid (@ship_no2 s now)
  have N3 := Lib.hid (@ship_no3 s now)
  have N4 := Lib.hid (@ship_no4 s now)
  have N5 := Lib.hid (@ship_no5 s now)
  have S := Lib.hid (@ship_still s now)
  have L := Lib.hid (@ship_lies s now)
  have T := Lib.hid (@ship_late s now)
  have HBX := Lib.hid (fun (v : Array Value) (T : TypeId) => small_box (v := v) (T := T) (Nat.le_refl w.heap.size))
  obtain ⟨B, hB⟩ : ∃ B, B = shipB s now := ⟨_, rfl⟩
  rw [← hB] at N1 N2 N3 N4 N5 S L T
  rw [← hB]
  clear hB
  obtain ⟨st, wd, lg, cl, si, qu⟩ := s
  dsimp only [shipV] at *
  by_cases h1 : inB st 1 4 = true
  · by_cases h2 : inB wd 1 16 = true
    · by_cases h3 : inB lg 1 300 = true
      · by_cases h4 : inB cl 0 3 = true
        · by_cases h5 : qu < 0
          · have F := Lib.hid (N5.out h5)
            have H1 := Lib.hid h1
            have H2 := Lib.hid h2
            have H3 := Lib.hid h3
            have H4 := Lib.hid h4
            clear h1 h2 h3 h4
            clear N1 N2 N3 N4 N5 S L T
            go_enter Try.func29, Try.ntmps29
            go_wp2_with (first
              | (go_at_call 46; (with_reducible refine (psmall_is _ H1.out).mono ?_); rintro e w' ⟨rfl, rfl⟩)
              | (go_at_call 46; (with_reducible refine (psmall_is _ H2.out).mono ?_); rintro e w' ⟨rfl, rfl⟩)
              | (go_at_call 46; (with_reducible refine (psmall_is _ H3.out).mono ?_); rintro e w' ⟨rfl, rfl⟩)
              | (go_at_call 46; (with_reducible refine (psmall_is _ H4.out).mono ?_); rintro e w' ⟨rfl, rfl⟩))
            go_ret
            exact ⟨ret_bool F.out.symm, HBX.out _ _⟩
          · have h5' : 0 ≤ qu := by omega
            by_cases h6 : st = 3
            · subst h6
              have F := Lib.hid (L.out h1 h2 h3 h4 h5' rfl)
              have T' := Lib.hid (T.out rfl)
              obtain ⟨g1, g2⟩ := (inB_iff _ _ _).1 h3
              have H1 := Lib.hid h1
              have H2 := Lib.hid h2
              have H3 := Lib.hid h3
              have H4 := Lib.hid h4
              clear h1 h2 h3 h4
              clear N1 N2 N3 N4 N5 S L T
              by_cases d1 : 0 ≤ si
              · by_cases d2 : si ≤ now
                · by_cases d3 : si ≤ 400
                  · by_cases d4 : now < si + lg
                    · clear T'
                      go_enter Try.func29, Try.ntmps29
                      go_wp2_with (first
                        | (go_at_call 46; (with_reducible refine (psmall_is _ H1.out).mono ?_); rintro e w' ⟨rfl, rfl⟩)
                        | (go_at_call 46; (with_reducible refine (psmall_is _ H2.out).mono ?_); rintro e w' ⟨rfl, rfl⟩)
                        | (go_at_call 46; (with_reducible refine (psmall_is _ H3.out).mono ?_); rintro e w' ⟨rfl, rfl⟩)
                        | (go_at_call 46; (with_reducible refine (psmall_is _ H4.out).mono ?_); rintro e w' ⟨rfl, rfl⟩))
                      go_ret
                      exact ⟨ret_bool (by rw [F.out, decide_eq_true d1, decide_eq_true d2, decide_eq_true d4]; simp), HBX.out _ _⟩
                    · have F' := Lib.hid (T'.out (by omega))
                      clear F T'
                      go_enter Try.func29, Try.ntmps29
                      go_wp2_with (first
                        | (go_at_call 46; (with_reducible refine (psmall_is _ H1.out).mono ?_); rintro e w' ⟨rfl, rfl⟩)
                        | (go_at_call 46; (with_reducible refine (psmall_is _ H2.out).mono ?_); rintro e w' ⟨rfl, rfl⟩)
                        | (go_at_call 46; (with_reducible refine (psmall_is _ H3.out).mono ?_); rintro e w' ⟨rfl, rfl⟩)
                        | (go_at_call 46; (with_reducible refine (psmall_is _ H4.out).mono ?_); rintro e w' ⟨rfl, rfl⟩))
                      go_ret
                      exact ⟨ret_bool F'.out.symm, HBX.out _ _⟩
                  · have F' := Lib.hid (T'.out (by omega))
                    clear F T'
                    have hov : wrap64 (si + lg) ≤ now ∨ 300 < wrap64 (si + lg) := by unfold wrap64; omega
                    generalize hS : wrap64 (si + lg) = S at hov
                    by_cases d4 : now < S
                    · have d5 : 300 < S := by omega
                      clear hov
                      go_enter Try.func29, Try.ntmps29
                      go_wp2_with (first
                        | (go_at_call 46; (with_reducible refine (psmall_is _ H1.out).mono ?_); rintro e w' ⟨rfl, rfl⟩)
                        | (go_at_call 46; (with_reducible refine (psmall_is _ H2.out).mono ?_); rintro e w' ⟨rfl, rfl⟩)
                        | (go_at_call 46; (with_reducible refine (psmall_is _ H3.out).mono ?_); rintro e w' ⟨rfl, rfl⟩)
                        | (go_at_call 46; (with_reducible refine (psmall_is _ H4.out).mono ?_); rintro e w' ⟨rfl, rfl⟩))
                      go_ret
                      exact ⟨ret_bool (by rw [F'.out, decide_eq_false (by omega)]), HBX.out _ _⟩
                    · clear hov
                      go_enter Try.func29, Try.ntmps29
                      go_wp2_with (first
                        | (go_at_call 46; (with_reducible refine (psmall_is _ H1.out).mono ?_); rintro e w' ⟨rfl, rfl⟩)
                        | (go_at_call 46; (with_reducible refine (psmall_is _ H2.out).mono ?_); rintro e w' ⟨rfl, rfl⟩)
                        | (go_at_call 46; (with_reducible refine (psmall_is _ H3.out).mono ?_); rintro e w' ⟨rfl, rfl⟩)
                        | (go_at_call 46; (with_reducible refine (psmall_is _ H4.out).mono ?_); rintro e w' ⟨rfl, rfl⟩))
                      go_ret
                      exact ⟨ret_bool F'.out.symm, HBX.out _ _⟩
                · have F' := Lib.hid (T'.out (by omega))
                  clear F T'
                  go_enter Try.func29, Try.ntmps29
                  go_wp2_with (first
                    | (go_at_call 46; (with_reducible refine (psmall_is _ H1.out).mono ?_); rintro e w' ⟨rfl, rfl⟩)
                    | (go_at_call 46; (with_reducible refine (psmall_is _ H2.out).mono ?_); rintro e w' ⟨rfl, rfl⟩)
                    | (go_at_call 46; (with_reducible refine (psmall_is _ H3.out).mono ?_); rintro e w' ⟨rfl, rfl⟩)
                    | (go_at_call 46; (with_reducible refine (psmall_is _ H4.out).mono ?_); rintro e w' ⟨rfl, rfl⟩))
                  go_ret
                  exact ⟨ret_bool F'.out.symm, HBX.out _ _⟩
              · have F' := Lib.hid (T'.out (by omega))
                clear F T'
                go_enter Try.func29, Try.ntmps29
                go_wp2_with (first
                  | (go_at_call 46; (with_reducible refine (psmall_is _ H1.out).mono ?_); rintro e w' ⟨rfl, rfl⟩)
                  | (go_at_call 46; (with_reducible refine (psmall_is _ H2.out).mono ?_); rintro e w' ⟨rfl, rfl⟩)
                  | (go_at_call 46; (with_reducible refine (psmall_is _ H3.out).mono ?_); rintro e w' ⟨rfl, rfl⟩)
                  | (go_at_call 46; (with_reducible refine (psmall_is _ H4.out).mono ?_); rintro e w' ⟨rfl, rfl⟩))
                go_ret
                exact ⟨ret_bool F'.out.symm, HBX.out _ _⟩
            · have F := Lib.hid (S.out h1 h2 h3 h4 h5' h6)
              have H1 := Lib.hid h1
              have H2 := Lib.hid h2
              have H3 := Lib.hid h3
              have H4 := Lib.hid h4
              clear h1 h2 h3 h4
              clear N1 N2 N3 N4 N5 S L T
              go_enter Try.func29, Try.ntmps29
              go_wp2_with (first
                | (go_at_call 46; (with_reducible refine (psmall_is _ H1.out).mono ?_); rintro e w' ⟨rfl, rfl⟩)
                | (go_at_call 46; (with_reducible refine (psmall_is _ H2.out).mono ?_); rintro e w' ⟨rfl, rfl⟩)
                | (go_at_call 46; (with_reducible refine (psmall_is _ H3.out).mono ?_); rintro e w' ⟨rfl, rfl⟩)
                | (go_at_call 46; (with_reducible refine (psmall_is _ H4.out).mono ?_); rintro e w' ⟨rfl, rfl⟩))
              go_ret
              exact ⟨ret_bool (by rw [F.out]; rfl), HBX.out _ _⟩
        · have h4 : inB cl 0 3 = false := by simpa using h4
          have F := Lib.hid (N4.out h4)
          have H1 := Lib.hid h1
          have H2 := Lib.hid h2
          have H3 := Lib.hid h3
          have H4 := Lib.hid h4
          clear h1 h2 h3 h4
          clear N1 N2 N3 N4 N5 S L T
          go_enter Try.func29, Try.ntmps29
          go_wp2_with (first
            | (go_at_call 46; (with_reducible refine (psmall_is _ H1.out).mono ?_); rintro e w' ⟨rfl, rfl⟩)
            | (go_at_call 46; (with_reducible refine (psmall_is _ H2.out).mono ?_); rintro e w' ⟨rfl, rfl⟩)
            | (go_at_call 46; (with_reducible refine (psmall_is _ H3.out).mono ?_); rintro e w' ⟨rfl, rfl⟩)
            | (go_at_call 46; (with_reducible refine (psmall_is _ H4.out).mono ?_); rintro e w' ⟨rfl, rfl⟩))
          go_ret
          exact ⟨ret_bool F.out.symm, HBX.out _ _⟩
      · have h3 : inB lg 1 300 = false := by simpa using h3
        have F := Lib.hid (N3.out h3)
        have H1 := Lib.hid h1
        have H2 := Lib.hid h2
        have H3 := Lib.hid h3
        clear h1 h2 h3
        clear N1 N2 N3 N4 N5 S L T
        go_enter Try.func29, Try.ntmps29
        go_wp2_with (first
          | (go_at_call 46; (with_reducible refine (psmall_is _ H1.out).mono ?_); rintro e w' ⟨rfl, rfl⟩)
          | (go_at_call 46; (with_reducible refine (psmall_is _ H2.out).mono ?_); rintro e w' ⟨rfl, rfl⟩)
          | (go_at_call 46; (with_reducible refine (psmall_is _ H3.out).mono ?_); rintro e w' ⟨rfl, rfl⟩))
        go_ret
        exact ⟨ret_bool F.out.symm, HBX.out _ _⟩
    · have h2 : inB wd 1 16 = false := by simpa using h2
      have F := Lib.hid (N2.out h2)
      have H1 := Lib.hid h1
      have H2 := Lib.hid h2
      clear h1 h2
      clear N1 N2 N3 N4 N5 S L T
      go_enter Try.func29, Try.ntmps29
      go_wp2_with (first
        | (go_at_call 46; (with_reducible refine (psmall_is _ H1.out).mono ?_); rintro e w' ⟨rfl, rfl⟩)
        | (go_at_call 46; (with_reducible refine (psmall_is _ H2.out).mono ?_); rintro e w' ⟨rfl, rfl⟩))
      go_ret
      exact ⟨ret_bool F.out.symm, HBX.out _ _⟩
  · have h1 : inB st 1 4 = false := by simpa using h1
    have F := Lib.hid (N1.out h1)
    have H1 := Lib.hid h1
    clear h1
    clear N1 N2 N3 N4 N5 S L T
    go_enter Try.func29, Try.ntmps29
    go_wp2_with (first
      | (go_at_call 46; (with_reducible refine (psmall_is _ H1.out).mono ?_); rintro e w' ⟨rfl, rfl⟩))
    go_ret
    exact ⟨ret_bool F.out.symm, HBX.out _ _⟩
end Go.Proofs.Ytifmdkcpbajdcaa
