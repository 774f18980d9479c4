/- Walks: may an order be told; its line. -/
import Derived.Test.YtifmdkcpbajdcabDoorParse
set_option linter.unusedVariables false
set_option linter.unusedSimpArgs false
namespace Go.Proofs.YtifmdkcpbajdcabDoor
open Go.RowKit Go.Proofs Plain

structure OrdWf (o : Order) : Prop where
  kind : -9223372036854775808 ≤ o.kind ∧ o.kind ≤ 9223372036854775807
  a : -9223372036854775808 ≤ o.a ∧ o.a ≤ 9223372036854775807
  b : -9223372036854775808 ≤ o.b ∧ o.b ≤ 9223372036854775807
  c : -9223372036854775808 ≤ o.c ∧ o.c ≤ 9223372036854775807

/-- The number at this place is one that may stand there. -/
def okN (C : Nat) (k n : Int) : Bool := inLim n && (decide (k < (C : Int)) || decide (n = 0))

theorem goodO_okN (o : Order) (h1 : 1 ≤ o.kind) (h2 : o.kind ≤ 14) : goodO o = (okN (countsL.getD o.kind.toNat 0) 0 o.a && okN (countsL.getD o.kind.toNat 0) 1 o.b && okN (countsL.getD o.kind.toNat 0) 2 o.c) := by
  rw [Bool.eq_iff_iff]
  unfold goodO okN
  generalize countsL.getD o.kind.toNat 0 = C
  simp only [Bool.and_eq_true, Bool.or_eq_true, decide_eq_true_eq]
  constructor
  · rintro ⟨⟨⟨⟨⟨⟨⟨_, _⟩, ha⟩, hb⟩, hc⟩, h0⟩, h1⟩, h2⟩
    exact ⟨⟨⟨ha, by omega⟩, ⟨hb, by omega⟩⟩, ⟨hc, by omega⟩⟩
  · rintro ⟨⟨⟨ha, h0⟩, ⟨hb, h1'⟩⟩, ⟨hc, h2'⟩⟩
    exact ⟨⟨⟨⟨⟨⟨⟨h1, h2⟩, ha⟩, hb⟩, hc⟩, by omega⟩, by omega⟩, by omega⟩

theorem okN_yes {C : Nat} {k n : Int} (h : okN C k n = true) : -1073741824 ≤ n ∧ n ≤ 1073741824 ∧ (k < (C : Int) ∨ n = 0) := by
  simp only [okN, inLim, Bool.and_eq_true, Bool.or_eq_true, decide_eq_true_eq] at h
  exact ⟨h.1.1, h.1.2, h.2⟩

theorem goodO_kind {o : Order} (h : ¬ (1 ≤ o.kind ∧ o.kind ≤ 14)) : goodO o = false := by
  rw [← Bool.not_eq_true, goodO_iff]
  exact fun g => h ⟨g.1, g.2.1⟩

theorem ret_bool2 {a b : Bool} (h : a = b) : Ending.returned (.bool a) = .returned (.bool b) := by rw [h]

def nth3 (a b c k : Int) : Int := if k = 0 then a else if k = 1 then b else c

set_option maxRecDepth 100000 in
set_option maxHeartbeats 8000000 in
theorem goodOrder_any (B : Nat) (o : Order) (w : World) (ho : OrdWf o) (hL : LineAt B w) :
    Calls Tryd.prog 8 #[.agg (ordA o)] w fun e w' => e = .returned (.bool (goodO o)) ∧ Below w.heap.size w w' := by
  obtain ⟨⟨k0, k1⟩, ⟨a0, a1⟩, ⟨b0, b1⟩, ⟨c0, c1⟩⟩ := ho
  have hB0 : Below w.heap.size w (w.alloc (.cells (ordA o) 23)) := (Below.refl _ _).alloc (Nat.le_refl _) _
  by_cases hk : 1 ≤ o.kind ∧ o.kind ≤ 14
  · have hO0 := OrdAt.new w o
    have hLr := hL.below (hB0.mono hL.size)
    have HG := Lib.hid (goodO_okN o hk.1 hk.2)
    obtain ⟨kd, a, b, c⟩ := o
    dsimp only at *
    obtain ⟨K, rfl⟩ : ∃ K : Nat, kd = (K : Int) := ⟨kd.toNat, by omega⟩
    have hK : K < 15 := by omega
    have hK1 : 1 ≤ K := by omega
    have hcn := hLr.counts K hK
    rw [Int.toNat_natCast] at HG
    have hC3 := counts_le K hK
    obtain ⟨C, hC⟩ : ∃ C, countsL.getD K 0 = C := ⟨_, rfl⟩
    rw [hC] at hcn hC3 HG
    clear hL hC hLr k0 k1 hk
    have d1 : decide ((K : Int) < 1) = false := by simp; omega
    have d2 : decide (14 < (K : Int)) = false := by simp; omega
    obtain ⟨f0, f1, f2, f3, e0, e1, e2, e3⟩ := hO0.facts
    dsimp only at e0 e1 e2 e3
    obtain ⟨W, hW⟩ : ∃ W, W = w.alloc (.cells (ordA ⟨(K : Int), a, b, c⟩) 23) := ⟨_, rfl⟩
    rw [← hW] at hcn hB0 e0 e1 e2 e3
    clear f0 f1 f2 f3 hO0
    simp only [ordA] at hW ⊢
    go_enter Tryd.func8, Tryd.ntmps8
    have i0 : ∀ w, (Instr.index 33 (.agg #[.int .i64 a, .int .i64 b, .int .i64 c]) (.int .i64 0)).run Tryd.prog w = .ok (.int .i64 a) w := fun _ => by kernel_rfl
    have i1 : ∀ w, (Instr.index 33 (.agg #[.int .i64 a, .int .i64 b, .int .i64 c]) (.int .i64 1)).run Tryd.prog w = .ok (.int .i64 b) w := fun _ => by kernel_rfl
    have i2 : ∀ w, (Instr.index 33 (.agg #[.int .i64 a, .int .i64 b, .int .i64 c]) (.int .i64 2)).run Tryd.prog w = .ok (.int .i64 c) w := fun _ => by kernel_rfl
    go_wp2_with fail
    rw [← hW]
    clear hW
    go_loop [20] (fun i => ∃ k : Int, 0 ≤ k ∧ k ≤ 3 ∧ i = .int .i64 k ∧ ∀ j, 0 ≤ j → j < k → okN C j (nth3 a b c j) = true) (fun i => (3 - intOf i).toNat)
    case atStart => exact ⟨0, by omega, by omega, rfl, fun j h1 h2 => by omega⟩
    case round =>
      obtain ⟨k, hk0, hk3, rfl, hall⟩ := hrel
      have HA := Lib.hid hall
      clear hall
      obtain rfl | rfl | rfl | rfl : k = 0 ∨ k = 1 ∨ k = 2 ∨ k = 3 := by omega
      · cases hok : okN C 0 a with
        | true =>
          obtain ⟨g1, g2, g3⟩ := okN_yes hok
          have HOK := Lib.hid hok
          clear hok
          have l1 : decide (a < -1073741824) = false := by simp; omega
          have l2 : decide (1073741824 < a) = false := by simp; omega
          by_cases hc : (C : Int) ≤ 0
          · obtain rfl : a = 0 := by omega
            have l3 : decide ((C : Int) ≤ 0) = true := by simpa using hc
            go_wp2_with fail
            go_round
            case rel => exact ⟨1, by omega, by omega, rfl, fun j h1 h2 => by
              obtain h | rfl : j < 0 ∨ j = 0 := by omega
              · exact HA.out j h1 h
              · exact HOK.out⟩
            case measure => simp [intOf]
          · have l3 : decide ((C : Int) ≤ 0) = false := by simpa using hc
            go_wp2_with fail
            go_round
            case rel => exact ⟨1, by omega, by omega, rfl, fun j h1 h2 => by
              obtain h | rfl : j < 0 ∨ j = 0 := by omega
              · exact HA.out j h1 h
              · exact HOK.out⟩
            case measure => simp [intOf]
        | false =>
          have HF := Lib.hid (show goodO ⟨(K : Int), a, b, c⟩ = false by rw [HG.out, hok]; simp)
          have hno : a < -1073741824 ∨ 1073741824 < a ∨ ((C : Int) ≤ 0 ∧ a ≠ 0) := by
            simp only [okN, inLim, Bool.and_eq_false_iff, Bool.or_eq_false_iff, decide_eq_false_iff_not] at hok
            omega
          clear hok
          by_cases h1 : a < -1073741824
          · have l1 : decide (a < -1073741824) = true := by simpa using h1
            clear hno
            go_wp2_with fail
            go_ret
            exact ⟨ret_bool2 HF.out.symm, hB0⟩
          · have l1 : decide (a < -1073741824) = false := by simpa using h1
            by_cases h2 : 1073741824 < a
            · have l2 : decide (1073741824 < a) = true := by simpa using h2
              clear hno
              go_wp2_with fail
              go_ret
              exact ⟨ret_bool2 HF.out.symm, hB0⟩
            · have l2 : decide (1073741824 < a) = false := by simpa using h2
              obtain rfl : C = 0 := by omega
              have l4 : (a == 0) = false := by simp; omega
              have l5 : (a != 0) = true := by simp; omega
              clear hno
              go_wp2_with fail
              go_ret
              exact ⟨ret_bool2 HF.out.symm, hB0⟩
      · cases hok : okN C 1 b with
        | true =>
          obtain ⟨g1, g2, g3⟩ := okN_yes hok
          have HOK := Lib.hid hok
          clear hok
          have l1 : decide (b < -1073741824) = false := by simp; omega
          have l2 : decide (1073741824 < b) = false := by simp; omega
          by_cases hc : (C : Int) ≤ 1
          · obtain rfl : b = 0 := by omega
            have l3 : decide ((C : Int) ≤ 1) = true := by simpa using hc
            go_wp2_with fail
            go_round
            case rel => exact ⟨2, by omega, by omega, rfl, fun j h1 h2 => by
              obtain h | rfl : j < 1 ∨ j = 1 := by omega
              · exact HA.out j h1 h
              · exact HOK.out⟩
            case measure => simp [intOf]
          · have l3 : decide ((C : Int) ≤ 1) = false := by simpa using hc
            go_wp2_with fail
            go_round
            case rel => exact ⟨2, by omega, by omega, rfl, fun j h1 h2 => by
              obtain h | rfl : j < 1 ∨ j = 1 := by omega
              · exact HA.out j h1 h
              · exact HOK.out⟩
            case measure => simp [intOf]
        | false =>
          have HF := Lib.hid (show goodO ⟨(K : Int), a, b, c⟩ = false by rw [HG.out, hok]; simp)
          have hno : b < -1073741824 ∨ 1073741824 < b ∨ ((C : Int) ≤ 1 ∧ b ≠ 0) := by
            simp only [okN, inLim, Bool.and_eq_false_iff, Bool.or_eq_false_iff, decide_eq_false_iff_not] at hok
            omega
          clear hok
          by_cases h1 : b < -1073741824
          · have l1 : decide (b < -1073741824) = true := by simpa using h1
            clear hno
            go_wp2_with fail
            go_ret
            exact ⟨ret_bool2 HF.out.symm, hB0⟩
          · have l1 : decide (b < -1073741824) = false := by simpa using h1
            by_cases h2 : 1073741824 < b
            · have l2 : decide (1073741824 < b) = true := by simpa using h2
              clear hno
              go_wp2_with fail
              go_ret
              exact ⟨ret_bool2 HF.out.symm, hB0⟩
            · have l2 : decide (1073741824 < b) = false := by simpa using h2
              have l3 : decide ((C : Int) ≤ 1) = true := by simp; omega
              have l4 : (b == 0) = false := by simp; omega
              have l5 : (b != 0) = true := by simp; omega
              clear hno
              go_wp2_with fail
              go_ret
              exact ⟨ret_bool2 HF.out.symm, hB0⟩
      · cases hok : okN C 2 c with
        | true =>
          obtain ⟨g1, g2, g3⟩ := okN_yes hok
          have HOK := Lib.hid hok
          clear hok
          have l1 : decide (c < -1073741824) = false := by simp; omega
          have l2 : decide (1073741824 < c) = false := by simp; omega
          by_cases hc : (C : Int) ≤ 2
          · obtain rfl : c = 0 := by omega
            have l3 : decide ((C : Int) ≤ 2) = true := by simpa using hc
            go_wp2_with fail
            go_round
            case rel => exact ⟨3, by omega, by omega, rfl, fun j h1 h2 => by
              obtain h | rfl : j < 2 ∨ j = 2 := by omega
              · exact HA.out j h1 h
              · exact HOK.out⟩
            case measure => simp [intOf]
          · have l3 : decide ((C : Int) ≤ 2) = false := by simpa using hc
            go_wp2_with fail
            go_round
            case rel => exact ⟨3, by omega, by omega, rfl, fun j h1 h2 => by
              obtain h | rfl : j < 2 ∨ j = 2 := by omega
              · exact HA.out j h1 h
              · exact HOK.out⟩
            case measure => simp [intOf]
        | false =>
          have HF := Lib.hid (show goodO ⟨(K : Int), a, b, c⟩ = false by rw [HG.out, hok]; simp)
          have hno : c < -1073741824 ∨ 1073741824 < c ∨ ((C : Int) ≤ 2 ∧ c ≠ 0) := by
            simp only [okN, inLim, Bool.and_eq_false_iff, Bool.or_eq_false_iff, decide_eq_false_iff_not] at hok
            omega
          clear hok
          by_cases h1 : c < -1073741824
          · have l1 : decide (c < -1073741824) = true := by simpa using h1
            clear hno
            go_wp2_with fail
            go_ret
            exact ⟨ret_bool2 HF.out.symm, hB0⟩
          · have l1 : decide (c < -1073741824) = false := by simpa using h1
            by_cases h2 : 1073741824 < c
            · have l2 : decide (1073741824 < c) = true := by simpa using h2
              clear hno
              go_wp2_with fail
              go_ret
              exact ⟨ret_bool2 HF.out.symm, hB0⟩
            · have l2 : decide (1073741824 < c) = false := by simpa using h2
              have l3 : decide ((C : Int) ≤ 2) = true := by simp; omega
              have l4 : (c == 0) = false := by simp; omega
              have l5 : (c != 0) = true := by simp; omega
              clear hno
              go_wp2_with fail
              go_ret
              exact ⟨ret_bool2 HF.out.symm, hB0⟩
      · go_wp2_with fail
        go_ret
        refine ⟨ret_bool2 ?_, hB0⟩
        have h0 := HA.out 0 (by omega) (by omega)
        have h1 := HA.out 1 (by omega) (by omega)
        have h2 := HA.out 2 (by omega) (by omega)
        simp only [nth3] at h0 h1 h2
        rw [HG.out, show okN C 0 a = true from h0, show okN C 1 b = true from h1, show okN C 2 c = true from h2]; rfl
  · rw [goodO_kind hk]
    obtain ⟨kd, a, b, c⟩ := o
    dsimp only at *
    have hB1 := hB0
    simp only [ordA] at hB0 ⊢
    by_cases h1 : kd < 1
    · have d1 : decide (kd < 1) = true := by simpa using h1
      go_enter Tryd.func8, Tryd.ntmps8
      go_wp2_with fail
      go_ret
      exact ⟨rfl, hB0⟩
    · have d1 : decide (kd < 1) = false := by simpa using h1
      have d2 : decide (14 < kd) = true := by simp; omega
      go_enter Tryd.func8, Tryd.ntmps8
      go_wp2_with fail
      go_ret
      exact ⟨rfl, hB0⟩

theorem tellT_snoc (w : Txt) (ns : List Int) (n : Int) : tellT w (ns ++ [n]) = tellT w ns ++ 32 :: Lib.itoa n := by
  simp [tellT, List.flatMap_append]

/-- What of the line is there behind so many numbers. -/
def lineTo (K C : Nat) (a b c : Int) (k : Nat) : Txt := tellT (wordsL.getD K []) (([a, b, c].take C).take k)
theorem line_step {K C : Nat} {a b c : Int} (hC : C ≤ 3) (k : Nat) (hk : k < C) (_h3 : k < 3) : lineTo K C a b c (k + 1) = lineTo K C a b c k ++ 32 :: Lib.itoa ([a, b, c].getD k 0) := by
  unfold lineTo
  have hl : k < ([a, b, c].take C).length := by rw [take3 a b c hC]; exact hk
  have h3 : k < [a, b, c].length := _h3
  have hd : [a, b, c].getD k 0 = [a, b, c][k] := by rw [List.getD_eq_getElem?_getD, List.getElem?_eq_getElem h3]; rfl
  rw [List.take_add_one, List.getElem?_eq_getElem hl, Option.toList_some, tellT_snoc, List.getElem_take, hd]
theorem line_stay {K C : Nat} {a b c : Int} (hC : C ≤ 3) (k : Nat) (hk : C ≤ k) : lineTo K C a b c (k + 1) = lineTo K C a b c k := by
  unfold lineTo
  have hl : ([a, b, c].take C).length ≤ k := by rw [take3 a b c hC]; exact hk
  rw [List.take_of_length_le (l := [a, b, c].take C) hl, List.take_of_length_le (l := [a, b, c].take C) (Nat.le_succ_of_le hl)]
theorem line_size {K C : Nat} {a b c : Int} (hK : K < 15) (ha : inLim a = true) (hb : inLim b = true) (hc : inLim c = true) (k : Nat) : (bs (lineTo K C a b c k)).size ≤ 42 := by
  have h := tell_len (wordsL.getD K []) (([a, b, c].take C).take k) fun n hn => by
    have := List.mem_of_mem_take (List.mem_of_mem_take hn)
    simp at this
    rcases this with rfl | rfl | rfl <;> assumption
  have hw := words_len K hK
  have hl : (([a, b, c].take C).take k).length ≤ 3 := Nat.le_trans (List.length_take_le' _ _) (List.length_take_le' _ _)
  show (lineTo K C a b c k).length ≤ 42
  unfold lineTo
  omega
theorem itoa_size {n : Int} (h : inLim n = true) : (bs (Lib.itoa n)).size ≤ 11 := by
  simp only [inLim, Bool.and_eq_true, decide_eq_true_eq] at h
  exact itoa_len n h.1 h.2
theorem bs_join (s t : Txt) : bs s ++ ((⟨#[32]⟩ : ByteArray) ++ bs t) = bs (s ++ 32 :: t) := by
  apply bytes_inj
  rw [bs_list]
  simp [bs, ByteArray.data_append]

def RetPrint (o : Order) (w : World) (e : Ending) (w' : World) : Prop :=
  ∃ z : ByteArray, e = .returned (.tuple #[.string z, .int .i64 (if goodO o = true then 0 else 1)]) ∧ z = (if goodO o = true then bs (printL o) else ByteArray.empty) ∧ Below w.heap.size w w'


set_option maxRecDepth 100000 in
set_option maxHeartbeats 8000000 in
theorem print_any (B : Nat) (o : Order) (w : World) (ho : OrdWf o) (hL : LineAt B w) :
    Calls Tryd.prog 4 #[.agg (ordA o)] w (RetPrint o w) := by
  have hB0 : Below w.heap.size w (w.alloc (.cells (ordA o) 23)) := (Below.refl _ _).alloc (Nat.le_refl _) _
  have hO0 := OrdAt.new w o
  have hL0 := hL.below (hB0.mono hL.size)
  cases hg : goodO o with
  | false =>
    have HG := Lib.hid hg
    clear hg hL
    obtain ⟨kd, a, b, c⟩ := o
    simp only [ordA] at hB0 hL0 ⊢
    go_enter Tryd.func4, Tryd.ntmps4
    go_wp2_with fail
    refine (goodOrder_any B ⟨kd, a, b, c⟩ _ ho hL0).mono ?_
    rintro e w1 ⟨rfl, hb1⟩
    rw [HG.out]
    go_wp2_with fail
    go_ret2
    exact ⟨ByteArray.empty, by rw [HG.out]; rfl, by rw [HG.out]; rfl, below_line hB0 hb1⟩
  | true =>
    have HG := Lib.hid hg
    obtain ⟨hk1, hk2, la, lb, lc, _⟩ := (goodO_iff o).1 hg
    clear hg hL
    obtain ⟨kd, a, b, c⟩ := o
    dsimp only at hk1 hk2 la lb lc
    have HLA := Lib.hid (And.intro la (And.intro lb lc))
    have za := itoa_size la
    have zb := itoa_size lb
    have zc := itoa_size lc
    clear la lb lc
    obtain ⟨K, rfl⟩ : ∃ K : Nat, kd = (K : Int) := ⟨kd.toNat, by omega⟩
    have hK : K < 15 := by omega
    obtain ⟨⟨k0, k1⟩, ⟨a0, a1⟩, ⟨b0, b1⟩, ⟨c0, c1⟩⟩ := id ho
    dsimp only at a0 a1 b0 b1 c0 c1
    simp only [ordA] at hB0 hL0 ⊢
    have i0 : ∀ w, (Instr.index 33 (.agg #[.int .i64 a, .int .i64 b, .int .i64 c]) (.int .i64 0)).run Tryd.prog w = .ok (.int .i64 a) w := fun _ => by kernel_rfl
    have i1 : ∀ w, (Instr.index 33 (.agg #[.int .i64 a, .int .i64 b, .int .i64 c]) (.int .i64 1)).run Tryd.prog w = .ok (.int .i64 b) w := fun _ => by kernel_rfl
    have i2 : ∀ w, (Instr.index 33 (.agg #[.int .i64 a, .int .i64 b, .int .i64 c]) (.int .i64 2)).run Tryd.prog w = .ok (.int .i64 c) w := fun _ => by kernel_rfl
    go_enter Tryd.func4, Tryd.ntmps4
    go_wp2_with fail
    refine (goodOrder_any B ⟨K, a, b, c⟩ _ ho hL0).mono ?_
    rintro e w1 ⟨rfl, hb1⟩
    rw [HG.out]
    have hB1 := below_line hB0 hb1
    have hL1 := hL0.below (hb1.mono hL0.size)
    have hO1 := hO0.below hb1 hO0.lt
    obtain ⟨bw, ow, cw, hw1, hw2, hw3, hw4⟩ := hL1.words
    have hword := hw4 K hK
    obtain ⟨f0, f1, f2, f3, e0, e1, e2, e3⟩ := hO1.facts
    dsimp only at e0 e1 e2 e3
    have hltO := hO1.lt
    clear hw4 f0 f1 f2 f3 hb1 hB0 hL0 hO0
    go_wp2_with fail
    clear hword hw1 hw2 hw3 e1 e2 e3 e0
    obtain ⟨C, hC⟩ : ∃ C, countsL.getD K 0 = C := ⟨_, rfl⟩
    have hC3 := counts_le K hK
    rw [hC] at hC3
    have HC := Lib.hid hC
    clear hC
    go_loopw [4, 22] (fun s i wr => ∃ (k : Nat) (z : ByteArray), k ≤ 3 ∧ i = .int .i64 k ∧ s = .string z ∧ z = bs (lineTo K C a b c k) ∧ Below w1.heap.size w1 wr) (fun _ i _ => 3 - (intOf i).toNat)
    case atStart => exact ⟨0, _, by omega, rfl, rfl, by simp [lineTo, tellT], Below.refl _ _⟩
    case round =>
      obtain ⟨k, z, hk3, rfl, rfl, hz, hB⟩ := hrel
      have HZ := Lib.hid hz
      have hz42 : z.size ≤ 42 := by rw [hz]; exact line_size hK HLA.out.1 HLA.out.2.1 HLA.out.2.2 k
      clear hz
      have hLr := hL1.below (hB.mono hL1.size)
      have hOr := hO1.below hB hltO
      have hcn := hLr.counts K hK
      rw [HC.out] at hcn
      obtain ⟨f0, f1, f2, f3, e0, e1, e2, e3⟩ := hOr.facts
      dsimp only at e0
      clear f0 f1 f2 f3 e1 e2 e3
      obtain rfl | rfl | rfl | rfl : k = 0 ∨ k = 1 ∨ k = 2 ∨ k = 3 := by omega
      · by_cases hc : 0 < C
        · have l1 : decide ((0 : Int) < (C : Int)) = true := by simp; omega
          have HS := Lib.hid (show lineTo K C a b c 1 = lineTo K C a b c 0 ++ 32 :: Lib.itoa a from line_step hC3 0 hc (by omega))
          go_wp2_with (go_at_call 11; refine (itoa_any B a _ hLr a0 a1).mono ?_; rintro e w2 ⟨rfl, hb2⟩)
          go_roundw
          case rel => exact ⟨1, _, by omega, rfl, rfl, by rw [HS.out, HZ.out]; exact bs_join _ _, hB.trans (hb2.mono hB.size)⟩
          case measure => simp [intOf]
        · have l1 : decide ((0 : Int) < (C : Int)) = false := by simp; omega
          have HS := Lib.hid (show lineTo K C a b c 1 = lineTo K C a b c 0 from line_stay hC3 0 (by omega))
          go_wp2_with fail
          go_roundw
          case rel => exact ⟨1, _, by omega, rfl, rfl, by rw [HS.out]; exact HZ.out, hB⟩
          case measure => simp [intOf]
      · by_cases hc : 1 < C
        · have l1 : decide ((1 : Int) < (C : Int)) = true := by simp; omega
          have HS := Lib.hid (show lineTo K C a b c 2 = lineTo K C a b c 1 ++ 32 :: Lib.itoa b from line_step hC3 1 hc (by omega))
          go_wp2_with (go_at_call 11; refine (itoa_any B b _ hLr b0 b1).mono ?_; rintro e w2 ⟨rfl, hb2⟩)
          go_roundw
          case rel => exact ⟨2, _, by omega, rfl, rfl, by rw [HS.out, HZ.out]; exact bs_join _ _, hB.trans (hb2.mono hB.size)⟩
          case measure => simp [intOf]
        · have l1 : decide ((1 : Int) < (C : Int)) = false := by simp; omega
          have HS := Lib.hid (show lineTo K C a b c 2 = lineTo K C a b c 1 from line_stay hC3 1 (by omega))
          go_wp2_with fail
          go_roundw
          case rel => exact ⟨2, _, by omega, rfl, rfl, by rw [HS.out]; exact HZ.out, hB⟩
          case measure => simp [intOf]
      · by_cases hc : 2 < C
        · have l1 : decide ((2 : Int) < (C : Int)) = true := by simp; omega
          have HS := Lib.hid (show lineTo K C a b c 3 = lineTo K C a b c 2 ++ 32 :: Lib.itoa c from line_step hC3 2 hc (by omega))
          go_wp2_with (go_at_call 11; refine (itoa_any B c _ hLr c0 c1).mono ?_; rintro e w2 ⟨rfl, hb2⟩)
          go_roundw
          case rel => exact ⟨3, _, by omega, rfl, rfl, by rw [HS.out, HZ.out]; exact bs_join _ _, hB.trans (hb2.mono hB.size)⟩
          case measure => simp [intOf]
        · have l1 : decide ((2 : Int) < (C : Int)) = false := by simp; omega
          have HS := Lib.hid (show lineTo K C a b c 3 = lineTo K C a b c 2 from line_stay hC3 2 (by omega))
          go_wp2_with fail
          go_roundw
          case rel => exact ⟨3, _, by omega, rfl, rfl, by rw [HS.out]; exact HZ.out, hB⟩
          case measure => simp [intOf]
      · go_wp2_with fail
        go_ret2
        refine ⟨z, by rw [HG.out]; rfl, ?_, below_line hB1 hB⟩
        rw [HG.out, HZ.out, if_pos rfl]
        unfold lineTo printL nums
        rw [List.take_of_length_le (by rw [take3 a b c hC3]; exact hC3)]
        rw [Int.toNat_natCast, HC.out]
end Go.Proofs.YtifmdkcpbajdcabDoor
