/- Walks: the document's words and numbers. -/
import Derived.Test.YtifmdkcpbajdcabDoorLineLm
import Derived.Test.YtifmdkcpbajdcabDoorLineRefPlain
import Derived.Laws.IdiomStrings
set_option linter.unusedVariables false
set_option linter.unusedSimpArgs false
namespace Go.Proofs.YtifmdkcpbajdcabDoor
open Go.RowKit Go.Proofs Plain

theorem ret_boolR {a b : Bool} (h : a = b) : Ending.returned (.bool a) = .returned (.bool b) := by rw [h]

theorem withinR (n lo hi : Int) (w : World) :
    Calls Tryd.prog 21 #[.int .i64 n, .int .i64 lo, .int .i64 hi] w fun e w' => e = .returned (.bool (decide (lo ≤ n) && decide (n ≤ hi))) ∧ w' = w := by
  by_cases h : lo ≤ n
  all_goals
    go_enter Tryd.func21, Tryd.ntmps21
    go_wp2_with fail
    go_ret
    exact ⟨ret_boolR (by rw [Bool.eq_iff_iff]; simp; omega), rfl⟩

/-- A word with the number of its numbers. -/
def refW (k : Nat) : Txt := wordsL.getD k [] ++ [47, UInt8.ofNat (48 + countsL.getD k 0)]
def refWs : List Txt := (List.range 14).map fun k => refW (k + 1)
def refWB : List ByteArray := refWs.map bs
def wordsText : ByteArray := ⟨#[99, 111, 109, 101, 47, 51, 32, 108, 101, 97, 118, 101, 47, 49, 32, 104, 111, 108, 100, 47, 49, 32, 102, 114, 101, 101, 47, 49, 32, 99, 104, 97, 110, 103, 101, 47, 50, 32, 107, 101, 101, 112, 47, 51, 32, 100, 114, 111, 112, 47, 49, 32, 115, 104, 117, 116, 47, 49, 32, 119, 97, 105, 116, 47, 49, 32, 98, 101, 103, 105, 110, 47, 48, 32, 99, 111, 109, 109, 105, 116, 47, 48, 32, 117, 110, 100, 111, 47, 48, 32, 103, 117, 101, 115, 115, 47, 51, 32, 97, 115, 107, 47, 49]⟩
theorem words_fields : Lib.fields wordsText.data.toList = refWs := by decide +kernel
theorem refWB_len : refWB.length = 14 := rfl
theorem words_ascii : ∀ (j : Nat) b, wordsText.data.toList[j]? = some b → b.toNat < 128 := by
  intro j b h
  have hm := List.mem_of_getElem? h
  have : ∀ x ∈ wordsText.data.toList, x.toNat < 128 := by decide +kernel
  exact this b hm

theorem fields_ref (w : World) (htab : Lib.TabIs Tryd.prog w "strings.asciiSpace" .u8 Lib.asciiSpaceTab) :
    Calls Tryd.prog 23 #[.string wordsText] w (RetStr refWB w) := by
  refine (Tryd.strings_Fields wordsText w (by decide +kernel) words_ascii htab).mono ?_
  rintro e w' ⟨rfl, rfl⟩
  rw [words_fields]
  refine ⟨some ⟨w.heap.size, 0, none⟩, 14, rfl, ?_, (Below.refl _ _).alloc (Nat.le_refl _) _⟩
  have h := Sl.new (size := 1) (n := refWB.length) w (refWB.map Value.string).toArray 9 (by simp)
  rw [List.toList_toArray] at h
  have e : (refWs.map fun l => Value.string ⟨l.toArray⟩) = refWB.map Value.string := by rw [refWB, List.map_map]; rfl
  rw [e]
  exact h

theorem wordsOf_any (w : World) (htab : Lib.TabIs Tryd.prog w "strings.asciiSpace" .u8 Lib.asciiSpaceTab) :
    Calls Tryd.prog 12 #[] w (RetStr refWB w) := by
  have HF := Lib.hid (fields_ref w htab)
  go_enter Tryd.func12, Tryd.ntmps12
  go_wp2_with fail
  refine HF.out.mono ?_
  rintro e w1 ⟨A, c, rfl, h1, hb1⟩
  go_wp2_with fail
  go_ret
  exact ⟨A, c, rfl, h1, hb1⟩

theorem decDigits_step {u : Nat} (h : ¬ u < 10) : Lib.decDigits u = Lib.decDigits (u / 10) ++ Lib.decDigits (u % 10) := by
  conv => lhs; rw [Lib.decDigits, dif_neg h]
  rw [Lib.decDigits_one (Nat.mod_lt _ (by omega))]

theorem bs_append (a b : Txt) : bs a ++ bs b = bs (a ++ b) := by
  apply bytes_inj; simp [bs]
theorem bs_size (a : Txt) : (bs a).size = a.length := by simp [bs, ByteArray.size]

theorem dec_short {u : Nat} (h : u < 1000000000000000000) : (bs (Lib.decDigits u)).size ≤ 18 := by
  rw [bs_size]; exact dec_len u 18 (by omega) (by omega)

theorem one_byte (w : World) (b : UInt8) (n : Int) (hn : (b.toNat : Int) = n) :
    (convert 46 9 (.slice (some ⟨w.heap.size, 0, none⟩) 1 1)).run Tryd.prog (w.alloc (.cells #[.int .u8 n] 5)) = .ok (.string (bs [b])) (w.alloc (.cells #[.int .u8 n] 5)) := by
  have h := run_convert_bytes_back (P := Tryd.prog) (w.alloc (.cells #[.int .u8 n] 5)) 46 9 5 ⟨w.heap.size, 0, none⟩ 1 [b] Tryd.underlying46 Tryd.underlying5 Tryd.underlying9 (fun j hj => by
    obtain rfl : j = 0 := by simpa using hj
    have : (⟨w.heap.size, 0, none⟩ : Addr).add 0 = ⟨w.heap.size, 0, none⟩ := by unfold Addr.add; split <;> simp_all
    rw [this]
    simp [hn])
  exact h

set_option maxRecDepth 100000 in
set_option maxHeartbeats 8000000 in
theorem dec_any : ∀ (u : Nat), u < 1000000000000000000 → ∀ w, Calls Tryd.prog 13 #[.int .i64 (u : Int)] w fun e w' => e = .returned (.string (bs (Lib.decDigits u))) ∧ Below w.heap.size w w' := by
  intro u
  induction u using Nat.strongRecOn with
  | ind u ih =>
    intro hu w
    have n0 : decide ((u : Int) < 0) = false := by simp
    by_cases h : u < 10
    · have d1 : decide (9 < (u : Int)) = false := by simp; omega
      have hr := Lib.decDigits_one h
      obtain ⟨D, hD⟩ : ∃ D, UInt8.ofNat (48 + u) = D := ⟨_, rfl⟩
      have hDn : (D.toNat : Int) = 48 + (u : Int) := by subst hD; simp [UInt8.toNat_ofNat']; omega
      rw [hD] at hr
      have hcv := one_byte w D (48 + (u : Int)) hDn
      have hr := Lib.hid hr
      clear hD hDn
      have u0 : (0 : Int) ≤ u := by omega
      have u9 : (u : Int) ≤ 9 := by omega
      clear ih hu
      go_enter Tryd.func13, Tryd.ntmps13
      go_wp2_with fail
      go_ret
      exact ⟨by rw [hr.out]; rfl, (Below.refl _ _).alloc (Nat.le_refl _) _⟩
    · have d1 : decide (9 < (u : Int)) = true := by simp; omega
      have hr := Lib.hid (decDigits_step h)
      have h1 := Lib.hid (ih (u / 10) (by omega) (by omega))
      have h2 := Lib.hid (ih (u % 10) (by omega) (by omega))
      have s1 := dec_short (u := u / 10) (by omega)
      have s2 := dec_short (u := u % 10) (by omega)
      have u0 : (0 : Int) ≤ u := by omega
      have u1 : (u : Int) ≤ 1000000000000000000 := by omega
      clear ih hu
      go_enter Tryd.func13, Tryd.ntmps13
      go_wp2_with fail
      refine (h1.out _).mono ?_
      rintro e w1 ⟨rfl, hb1⟩
      go_wp2_with fail
      refine (h2.out _).mono ?_
      rintro e w2 ⟨rfl, hb2⟩
      go_wp2_with fail
      go_ret
      exact ⟨by rw [hr.out, bs_append]; rfl, below_line hb1 hb2⟩

theorem itoa_neg_of {n : Int} (h : n < 0) : Lib.itoa n = 45 :: Lib.decDigits n.natAbs := by unfold Lib.itoa; rw [if_pos h]
theorem itoa_pos_of {n : Int} (h : ¬ n < 0) : Lib.itoa n = Lib.decDigits n.toNat := by unfold Lib.itoa; rw [if_neg h]

set_option maxRecDepth 100000 in
set_option maxHeartbeats 8000000 in
theorem decimal_any (n : Int) (h0 : -1000000000000000000 < n) (h1 : n < 1000000000000000000) (w : World) :
    Calls Tryd.prog 13 #[.int .i64 n] w fun e w' => e = .returned (.string (bs (Lib.itoa n))) ∧ Below w.heap.size w w' := by
  by_cases hn : n < 0
  · have hr := Lib.hid (itoa_neg_of hn)
    obtain ⟨u, hu⟩ : ∃ u : Nat, n.natAbs = u := ⟨_, rfl⟩
    have n0 : decide (n < 0) = true := by simpa using hn
    have hd := Lib.hid (dec_any u (by omega))
    have hneg : -n = (u : Int) := by omega
    rw [hu] at hr
    have s1 := dec_short (u := u) (by omega)
    have g0 : -9223372036854775808 ≤ -n := by omega
    have g1 : -n ≤ 9223372036854775807 := by omega
    rw [hneg] at g0 g1
    clear hn h0 h1 hu
    go_enter Tryd.func13, Tryd.ntmps13
    go_wp2_with fail
    refine (hd.out _).mono ?_
    rintro e w1 ⟨rfl, hb1⟩
    go_wp2_with fail
    go_ret
    exact ⟨by rw [hr.out]; rfl, hb1⟩
  · rw [itoa_pos_of hn]
    obtain ⟨u, rfl⟩ : ∃ u : Nat, n = (u : Int) := ⟨n.toNat, by omega⟩
    rw [Int.toNat_natCast]
    exact dec_any u (by omega) w
end Go.Proofs.YtifmdkcpbajdcabDoor
