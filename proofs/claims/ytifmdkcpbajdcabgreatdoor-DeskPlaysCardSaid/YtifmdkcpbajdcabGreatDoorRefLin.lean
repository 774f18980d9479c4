/- Plain laws: the document's own reading of numbers and orders is the same. -/
import Derived.Test.YtifmdkcpbajdcabGreatDoorPlain
import Derived.Test.YtifmdkcpbajdcabGreatDoorParse
import Derived.Test.YtifmdkcpbajdcabGreatDoorLineLm
import Derived.Laws.IdiomStrings
import Derived.Lib.SlTrimSet
import Derived.Test.YtifmdkcpbajdcabGreatDoorPlans
set_option linter.unusedVariables false
set_option linter.unusedSimpArgs false
set_option maxHeartbeats 16000000
namespace Go.Proofs.YtifmdkcpbajdcabGreatDoor.Plain
def bare (x : Txt) : Txt := if x.head? = some 45 then x.drop 1 else x
def signed (x : Txt) : Int := if bare x ≠ x then -(numVal 0 (bare x) : Int) else numVal 0 (bare x)
def refNum (x : Txt) : Option Int :=
  if bare x = [] \/ 10 < (bare x).length \/ (bare x).all isDig = false then none
  else if Lib.itoa (signed x) = x then some (signed x) else none
theorem dec_dig_head {u : Nat} : (Lib.decDigits u).head? ≠ some 45 := by
  intro h
  have : (45 : UInt8) ∈ Lib.decDigits u := List.mem_of_mem_head? (by rw [h]; rfl)
  exact absurd (dec_dig _ _ this) (by decide)
theorem bare_neg (u : Nat) : bare (45 :: Lib.decDigits u) = Lib.decDigits u := by simp [bare]
theorem bare_pos (u : Nat) : bare (Lib.decDigits u) = Lib.decDigits u := by
  unfold bare; rw [if_neg dec_dig_head]
theorem all_dig (u : Nat) : (Lib.decDigits u).all isDig = true := List.all_eq_true.2 (dec_dig u)
theorem refNum_itoa {v : Int} (h0 : -10000000000 < v) (h1 : v < 10000000000) : refNum (Lib.itoa v) = some v := by
  have key : ∀ u : Nat, u < 10000000000 -> ¬ (Lib.decDigits u = [] \/ 10 < (Lib.decDigits u).length \/ (Lib.decDigits u).all isDig = false) := by
    intro u hu h
    rcases h with h | h | h
    · exact dec_ne u h
    · have := dec_len u 10 (by omega) (by omega); omega
    · rw [all_dig] at h; cases h
  by_cases hn : v < 0
  · have e : Lib.itoa v = 45 :: Lib.decDigits v.natAbs := by unfold Lib.itoa; rw [if_pos hn]
    have hb : bare (Lib.itoa v) = Lib.decDigits v.natAbs := by rw [e, bare_neg]
    have hs : signed (Lib.itoa v) = v := by
      unfold signed
      rw [hb, if_pos (by rw [e]; intro h; have := congrArg List.length h; simp at this), dec_val]; omega
    unfold refNum
    rw [hb, if_neg (key _ (by omega)), hs, if_pos rfl]
  · have e : Lib.itoa v = Lib.decDigits v.toNat := by unfold Lib.itoa; rw [if_neg hn]
    have hb : bare (Lib.itoa v) = Lib.decDigits v.toNat := by rw [e, bare_pos]
    have hs : signed (Lib.itoa v) = v := by
      unfold signed
      rw [hb, if_neg (by rw [e]; simp), dec_val]; omega
    unfold refNum
    rw [hb, if_neg (key _ (by omega)), hs, if_pos rfl]
theorem refNum_back {x : Txt} {v : Int} (h : refNum x = some v) : Lib.itoa v = x := by
  unfold refNum at h
  split at h
  · cases h
  · split at h
    · rename_i h2; injection h with h; rw [<- h]; exact h2
    · cases h
theorem refNum_iff {x : Txt} {v : Int} (hv : inLim v = true) : refNum x = some v ↔ numOf x = some v := by
  rw [numOf_iff]
  have hv' := hv
  simp only [inLim, Bool.and_eq_true, decide_eq_true_eq] at hv'
  constructor
  · intro h; exact ⟨refNum_back h, hv⟩
  · rintro ⟨h, _⟩; rw [<- h]; exact refNum_itoa (by omega) (by omega)
def refNums : List Txt -> Option (List Int)
  | [] => some []
  | x :: r => match refNum x, refNums r with
    | some v, some l => some (v :: l)
    | _, _ => none
theorem refNums_some : ∀ (l : List Txt) (ns : List Int), refNums l = some ns -> (∀ n ∈ ns, inLim n = true) -> numsOf l = some ns
  | [], ns, h, _ => by simp only [refNums, Option.some.injEq] at h; subst h; rfl
  | x :: r, ns, h, hl => by
    rw [refNums] at h
    split at h
    · rename_i v l h1 h2
      injection h with h; subst h
      have := refNums_some r l h2 fun n hn => hl n (by simp [hn])
      rw [numsOf, (refNum_iff (hl v (by simp))).1 h1, this]
    · cases h
theorem refNums_of : ∀ (l : List Txt) (ns : List Int), numsOf l = some ns -> refNums l = some ns
  | [], ns, h => by simp only [numsOf, Option.some.injEq] at h; subst h; rfl
  | x :: r, ns, h => by
    rw [numsOf] at h
    split at h
    · rename_i v l h1 h2
      injection h with h; subst h
      rw [refNums, (refNum_iff ((numOf_iff _ _).1 h1).2).2 h1, refNums_of r l h2]
    · cases h
theorem refNums_len : ∀ (l : List Txt) (ns : List Int), refNums l = some ns -> ns.length = l.length
  | [], ns, h => by simp only [refNums, Option.some.injEq] at h; subst h; rfl
  | x :: r, ns, h => by
    rw [refNums] at h
    split at h
    · rename_i v l h1 h2
      injection h with h; subst h
      rw [List.length_cons, List.length_cons, refNums_len r l h2]
    · cases h
def refT (k : Nat) (args : List Txt) : Option Order :=
  match refNums args with
  | none => none
  | some ns => if goodO (orderOf k ns) = true then some (orderOf k ns) else none
theorem refT_eq {k : Nat} {args : List Txt} (h1 : 1 <= k) (h2 : k <= 14) (h3 : args.length = countsL.getD k 0) : refT k args = (numsOf args).map (orderOf k) := by
  have hc := counts_le k (by omega)
  unfold refT
  cases hr : refNums args with
  | none =>
    cases hn : numsOf args with
    | none => rfl
    | some ns => rw [refNums_of _ _ hn] at hr; cases hr
  | some ns =>
    have hl := refNums_len _ _ hr
    by_cases hg : goodO (orderOf k ns) = true
    · simp only [hg, if_true]
      obtain ⟨_, _, ha, hb, hcc, _⟩ := (goodO_iff _).1 hg
      have : ∀ n ∈ ns, inLim n = true := by
        intro n hn
        obtain ⟨i, hi, rfl⟩ := List.mem_iff_getElem.1 hn
        have hi3 : i < 3 := by omega
        have hget : ns[i] = ns.getD i 0 := by rw [List.getD_eq_getElem?_getD, List.getElem?_eq_getElem hi]; rfl
        rw [hget]
        rcases (by omega : i = 0 \/ i = 1 \/ i = 2) with rfl | rfl | rfl
        · exact ha
        · exact hb
        · exact hcc
      rw [refNums_some _ _ hr this]; rfl
    · simp only [hg]
      cases hn : numsOf args with
      | none => rfl
      | some ms =>
        exfalso
        rw [refNums_of _ _ hn] at hr
        injection hr with hr; subst hr
        apply hg
        obtain ⟨_, g2⟩ := numsOf_lim _ _ hn
        have hz : ∀ i, inLim (ms.getD i 0) = true := fun i => by
          rw [List.getD_eq_getElem?_getD]
          by_cases hi : i < ms.length
          · rw [List.getElem?_eq_getElem hi]; exact g2 _ (List.getElem_mem hi)
          · rw [List.getElem?_eq_none (by omega)]; decide
        have h0 : ∀ i, ms.length <= i -> ms.getD i 0 = 0 := fun i hi => by
          rw [List.getD_eq_getElem?_getD, List.getElem?_eq_none hi]; rfl
        have k3' : countsL.getD ((k : Int)).toNat 0 = ms.length := by rw [Int.toNat_natCast, hl, h3]
        refine (goodO_iff _).2 ⟨by show (1 : Int) <= (k : Int); omega, by show (k : Int) <= 14; omega, hz 0, hz 1, hz 2, ?_, ?_, ?_⟩
        · show 0 < countsL.getD ((k : Int)).toNat 0 \/ ms.getD 0 0 = 0
          by_cases c : 0 < ms.length
          · exact .inl (by omega)
          · exact .inr (h0 0 (by omega))
        · show 1 < countsL.getD ((k : Int)).toNat 0 \/ ms.getD 1 0 = 0
          by_cases c : 1 < ms.length
          · exact .inl (by omega)
          · exact .inr (h0 1 (by omega))
        · show 2 < countsL.getD ((k : Int)).toNat 0 \/ ms.getD 2 0 = 0
          by_cases c : 2 < ms.length
          · exact .inl (by omega)
          · exact .inr (h0 2 (by omega))
end Go.Proofs.YtifmdkcpbajdcabGreatDoor.Plain
namespace Go.Proofs.YtifmdkcpbajdcabGreatDoor
open Go.RowKit Go.Proofs Plain
open List renaming getElem_toArray -> lsA, getElem_cons_zero -> lsB, getElem_cons_succ -> lsC, setIfInBounds_toArray -> lsD, set_cons_zero -> lsE, set_cons_succ -> lsF
open Go.Act renaming put -> aP
open Go.Lib renaming hid -> hd_
structure OrdWf (o : Order) : Prop where
  kind : -9223372036854775808 <= o.kind /\ o.kind <= 9223372036854775807
  a : -9223372036854775808 <= o.a /\ o.a <= 9223372036854775807
  b : -9223372036854775808 <= o.b /\ o.b <= 9223372036854775807
  c : -9223372036854775808 <= o.c /\ o.c <= 9223372036854775807
def okN (C : Nat) (k n : Int) : Bool := inLim n && (decide (k < (C : Int)) || decide (n = 0))
theorem goodO_okN (o : Order) (h1 : 1 <= o.kind) (h2 : o.kind <= 14) : goodO o = (okN (countsL.getD o.kind.toNat 0) 0 o.a && okN (countsL.getD o.kind.toNat 0) 1 o.b && okN (countsL.getD o.kind.toNat 0) 2 o.c) := by
  rw [Bool.eq_iff_iff]
  unfold goodO okN
  generalize countsL.getD o.kind.toNat 0 = C
  simp only [Bool.and_eq_true, Bool.or_eq_true, decide_eq_true_eq]
  constructor
  · rintro ⟨⟨⟨⟨⟨⟨⟨_, _⟩, ha⟩, hb⟩, hc⟩, h0⟩, h1⟩, h2⟩
    exact ⟨⟨⟨ha, by omega⟩, ⟨hb, by omega⟩⟩, ⟨hc, by omega⟩⟩
  · rintro ⟨⟨⟨ha, h0⟩, ⟨hb, h1'⟩⟩, ⟨hc, h2'⟩⟩
    exact ⟨⟨⟨⟨⟨⟨⟨h1, h2⟩, ha⟩, hb⟩, hc⟩, by omega⟩, by omega⟩, by omega⟩
theorem okN_yes {C : Nat} {k n : Int} (h : okN C k n = true) : -1073741824 <= n /\ n <= 1073741824 /\ (k < (C : Int) \/ n = 0) := by
  simp only [okN, inLim, Bool.and_eq_true, Bool.or_eq_true, decide_eq_true_eq] at h
  exact ⟨h.1.1, h.1.2, h.2⟩
theorem goodO_kind {o : Order} (h : ¬ (1 <= o.kind /\ o.kind <= 14)) : goodO o = false := by
  rw [<- Bool.not_eq_true, goodO_iff]
  exact fun g => h ⟨g.1, g.2.1⟩
theorem ret_bool2 {a b : Bool} (h : a = b) : Ending.returned (.bool a) = .returned (.bool b) := by rw [h]
def nth3 (a b c k : Int) : Int := if k = 0 then a else if k = 1 then b else c
theorem ret_boolR {a b : Bool} (h : a = b) : Ending.returned (.bool a) = .returned (.bool b) := by rw [h]
theorem withinR (n lo hi : Int) (w : World) :
    Calls Tryz.prog 41 #[.int .i64 n, .int .i64 lo, .int .i64 hi] w fun e w' => e = .returned (.bool (decide (lo <= n) && decide (n <= hi))) /\ w' = w := by
  by_cases h : lo <= n
  all_goals
    go_enter Tryz.func41, Tryz.ntmps41
    go_wp2_with fail
    go_ret
    exact ⟨ret_boolR (by rw [Bool.eq_iff_iff]; simp; omega), rfl⟩
def refW (k : Nat) : Txt := wordsL.getD k [] ++ [47, UInt8.ofNat (48 + countsL.getD k 0)]
def refWs : List Txt := (List.range 14).map fun k => refW (k + 1)
def refWB : List ByteArray := refWs.map bs
def wordsText : ByteArray := ⟨#[99, 111, 109, 101, 47, 51, 32, 108, 101, 97, 118, 101, 47, 49, 32, 104, 111, 108, 100, 47, 49, 32, 102, 114, 101, 101, 47, 49, 32, 99, 104, 97, 110, 103, 101, 47, 50, 32, 107, 101, 101, 112, 47, 51, 32, 100, 114, 111, 112, 47, 49, 32, 115, 104, 117, 116, 47, 49, 32, 119, 97, 105, 116, 47, 49, 32, 98, 101, 103, 105, 110, 47, 48, 32, 99, 111, 109, 109, 105, 116, 47, 48, 32, 117, 110, 100, 111, 47, 48, 32, 103, 117, 101, 115, 115, 47, 51, 32, 97, 115, 107, 47, 49]⟩
theorem words_fields : Lib.fields wordsText.data.toList = refWs := by decide +kernel
theorem refWB_len : refWB.length = 14 := rfl
theorem words_ascii : ∀ (j : Nat) b, wordsText.data.toList[j]? = some b -> b.toNat < 128 := by
  intro j b h
  have hm := List.mem_of_getElem? h
  have : ∀ x ∈ wordsText.data.toList, x.toNat < 128 := by decide +kernel
  exact this b hm
theorem fields_ref (w : World) (htab : Lib.TabIs Tryz.prog w "strings.asciiSpace" .u8 Lib.asciiSpaceTab) :
    Calls Tryz.prog 96 #[.string wordsText] w (RetStr refWB w) := by
  refine (Tryz.strings_Fields wordsText w (by decide +kernel) words_ascii htab).mono ?_
  rintro e w' ⟨rfl, rfl⟩
  rw [words_fields]
  refine ⟨some ⟨w.heap.size, 0, none⟩, 14, rfl, ?_, (Below.refl _ _).alloc (Nat.le_refl _) _⟩
  have h := Sl.new (size := 1) (n := refWB.length) w (refWB.map Value.string).toArray 9 (by simp)
  rw [List.toList_toArray] at h
  have e : (refWs.map fun l => Value.string ⟨l.toArray⟩) = refWB.map Value.string := by rw [refWB, List.map_map]; rfl
  rw [e]
  exact h
theorem wordsOf_any (w : World) (htab : Lib.TabIs Tryz.prog w "strings.asciiSpace" .u8 Lib.asciiSpaceTab) :
    Calls Tryz.prog 63 #[] w (RetStr refWB w) := by
  have HF := hd_ (fields_ref w htab)
  go_enter Tryz.func63, Tryz.ntmps63
  go_wp2_with fail
  refine HF.out.mono ?_
  rintro e w1 ⟨A, c, rfl, h1, hb1⟩
  go_wp2_with fail
  go_ret
  exact ⟨A, c, rfl, h1, hb1⟩
theorem decDigits_step {u : Nat} (h : ¬ u < 10) : Lib.decDigits u = Lib.decDigits (u / 10) ++ Lib.decDigits (u % 10) := by
  conv => lhs; rw [Lib.decDigits, dif_neg h]
  rw [Lib.decDigits_one (Nat.mod_lt _ (by omega))]
theorem bs_append (a b : Txt) : bs a ++ bs b = bs (a ++ b) := by
  apply bytes_inj; simp [bs]
theorem bs_size (a : Txt) : (bs a).size = a.length := by simp [bs, ByteArray.size]
theorem dec_short {u : Nat} (h : u < 1000000000000000000) : (bs (Lib.decDigits u)).size <= 18 := by
  rw [bs_size]; exact dec_len u 18 (by omega) (by omega)
theorem one_byte (w : World) (b : UInt8) (n : Int) (hn : (b.toNat : Int) = n) :
    (convert 109 9 (.slice (some ⟨w.heap.size, 0, none⟩) 1 1)).run Tryz.prog (w.alloc (.cells #[.int .u8 n] 5)) = .ok (.string (bs [b])) (w.alloc (.cells #[.int .u8 n] 5)) := by
  have h := run_convert_bytes_back (P := Tryz.prog) (w.alloc (.cells #[.int .u8 n] 5)) 109 9 5 ⟨w.heap.size, 0, none⟩ 1 [b] Tryz.underlying109 Tryz.underlying5 Tryz.underlying9 (fun j hj => by
    obtain rfl : j = 0 := by simpa using hj
    have : (⟨w.heap.size, 0, none⟩ : Addr).add 0 = ⟨w.heap.size, 0, none⟩ := by unfold Addr.add; split <;> simp_all
    rw [this]
    simp [hn])
  exact h
set_option maxRecDepth 100000 in
theorem dec_any : ∀ (u : Nat), u < 1000000000000000000 -> ∀ w, Calls Tryz.prog 66 #[.int .i64 (u : Int)] w fun e w' => e = .returned (.string (bs (Lib.decDigits u))) /\ Below w.heap.size w w' := by
  intro u
  induction u using Nat.strongRecOn with
  | ind u ih =>
    intro hu w
    have n0 : decide ((u : Int) < 0) = false := by simp
    by_cases h : u < 10
    · have d1 : decide (9 < (u : Int)) = false := by simp; omega
      have hr := Lib.decDigits_one h
      obtain ⟨D, hD⟩ : ∃ D, UInt8.ofNat (48 + u) = D := ⟨_, rfl⟩
      have hDn : (D.toNat : Int) = 48 + (u : Int) := by subst hD; simp [UInt8.toNat_ofNat']; omega
      rw [hD] at hr
      have hcv := one_byte w D (48 + (u : Int)) hDn
      have hr := hd_ hr
      clear hD hDn
      have u0 : (0 : Int) <= u := by omega
      have u9 : (u : Int) <= 9 := by omega
      clear ih hu
      go_enter Tryz.func66, Tryz.ntmps66
      go_wp2_with fail
      go_ret
      exact ⟨by rw [hr.out]; rfl, (Below.refl _ _).alloc (Nat.le_refl _) _⟩
    · have d1 : decide (9 < (u : Int)) = true := by simp; omega
      have hr := hd_ (decDigits_step h)
      have h1 := hd_ (ih (u / 10) (by omega) (by omega))
      have h2 := hd_ (ih (u % 10) (by omega) (by omega))
      have s1 := dec_short (u := u / 10) (by omega)
      have s2 := dec_short (u := u % 10) (by omega)
      have u0 : (0 : Int) <= u := by omega
      have u1 : (u : Int) <= 1000000000000000000 := by omega
      clear ih hu
      go_enter Tryz.func66, Tryz.ntmps66
      go_wp2_with fail
      refine (h1.out _).mono ?_
      rintro e w1 ⟨rfl, hb1⟩
      go_wp2_with fail
      refine (h2.out _).mono ?_
      rintro e w2 ⟨rfl, hb2⟩
      go_wp2_with fail
      go_ret
      exact ⟨by rw [hr.out, bs_append]; rfl, bLn hb1 hb2⟩
theorem itoa_neg_of {n : Int} (h : n < 0) : Lib.itoa n = 45 :: Lib.decDigits n.natAbs := by unfold Lib.itoa; rw [if_pos h]
theorem itoa_pos_of {n : Int} (h : ¬ n < 0) : Lib.itoa n = Lib.decDigits n.toNat := by unfold Lib.itoa; rw [if_neg h]
set_option maxRecDepth 100000 in
theorem decimal_any (n : Int) (h0 : -1000000000000000000 < n) (h1 : n < 1000000000000000000) (w : World) :
    Calls Tryz.prog 66 #[.int .i64 n] w fun e w' => e = .returned (.string (bs (Lib.itoa n))) /\ Below w.heap.size w w' := by
  by_cases hn : n < 0
  · have hr := hd_ (itoa_neg_of hn)
    obtain ⟨u, hu⟩ : ∃ u : Nat, n.natAbs = u := ⟨_, rfl⟩
    have n0 : decide (n < 0) = true := by simpa using hn
    have hd := hd_ (dec_any u (by omega))
    have hneg : -n = (u : Int) := by omega
    rw [hu] at hr
    have s1 := dec_short (u := u) (by omega)
    have g0 : -9223372036854775808 <= -n := by omega
    have g1 : -n <= 9223372036854775807 := by omega
    rw [hneg] at g0 g1
    clear hn h0 h1 hu
    go_enter Tryz.func66, Tryz.ntmps66
    go_wp2_with fail
    refine (hd.out _).mono ?_
    rintro e w1 ⟨rfl, hb1⟩
    go_wp2_with fail
    go_ret
    exact ⟨by rw [hr.out]; rfl, hb1⟩
  · rw [itoa_pos_of hn]
    obtain ⟨u, rfl⟩ : ∃ u : Nat, n = (u : Int) := ⟨n.toNat, by omega⟩
    rw [Int.toNat_natCast]
    exact dec_any u (by omega) w
def digits : Txt := [48, 49, 50, 51, 52, 53, 54, 55, 56, 57]
theorem digits_dig (c : UInt8) : digits.contains c = isDig c := by
  have : ∀ n : Nat, n < 256 -> digits.contains (UInt8.ofNat n) = isDig (UInt8.ofNat n) := by decide +kernel
  have h := this c.toNat (UInt8.toNat_lt c)
  rwa [UInt8.ofNat_toNat] at h
theorem dropWhile_nil {p : UInt8 -> Bool} : ∀ (l : Txt), l.dropWhile p = [] ↔ l.all p = true
  | [] => by simp
  | c :: r => by
    rw [List.dropWhile_cons, List.all_cons]
    cases h : p c with
    | true => simp [dropWhile_nil r]
    | false => simp
theorem trim_digits (l : Txt) : Lib.trimS l digits = [] ↔ l.all isDig = true := by
  have hp : (fun c => digits.contains c) = isDig := funext digits_dig
  unfold Lib.trimS Lib.trimLeftS Lib.trimRightS
  rw [hp, dropWhile_nil, List.all_reverse]
  constructor
  · intro h
    have h2 : (l.reverse.dropWhile isDig) = [] := by
      cases hd : l.reverse.dropWhile isDig with
      | nil => rfl
      | cons c r =>
        exfalso
        have h3 : isDig c = false := by
          have := List.head_dropWhile_not isDig (l := l.reverse) (by rw [hd]; simp)
          simpa [hd] using this
        rw [hd, List.all_cons, h3] at h
        cases h
    rw [dropWhile_nil, List.all_reverse] at h2
    exact h2
  · intro h
    have h2 : l.reverse.dropWhile isDig = [] := by rw [dropWhile_nil, List.all_reverse]; exact h
    rw [h2]; rfl
theorem bare_trim (x : Txt) : Lib.trimPrefix x [45] = bare x := by
  unfold Lib.trimPrefix bare
  cases x with
  | nil => simp [Lib.hasPrefix]
  | cons c r =>
    by_cases h : c = 45
    · subst h; simp [Lib.hasPrefix]
    · have h2 : ¬ (45 : UInt8) = c := fun e => h e.symm
      simp [Lib.hasPrefix, h, h2]
theorem numVal_snoc (l : Txt) (c : UInt8) : numVal 0 (l ++ [c]) = numVal 0 l * 10 + (c.toNat - 48) := by
  unfold numVal; rw [List.foldl_append]; rfl
theorem numVal_lt : ∀ (n : Nat) (l : Txt), l.length = n -> l.all isDig = true -> numVal 0 l < 10 ^ n := by
  intro n
  induction n with
  | zero => intro l hl _; obtain rfl := List.eq_nil_of_length_eq_zero hl; decide
  | succ n ih =>
    intro l hl ha
    obtain ⟨m, c, rfl⟩ : ∃ m c, l = m ++ [c] := by
      refine ⟨l.dropLast, l.getLast (fun e => by rw [e] at hl; cases hl), (List.dropLast_concat_getLast _).symm⟩
    rw [List.all_append] at ha
    simp only [Bool.and_eq_true, List.all_cons, List.all_nil, Bool.and_true, isDig, decide_eq_true_eq] at ha
    have h1 := ih m (by simpa using hl) ha.1
    rw [numVal_snoc, Nat.pow_succ]
    omega
theorem ar3_zero (ns : List Int) (h : ns.length < 3) : ar3 (ns ++ [0]) = ar3 ns := by
  match ns, h with
  | [], _ => rfl
  | [_], _ => rfl
  | [_, _], _ => rfl
theorem ar3_over (ns : List Int) (v u : Int) (h : ns.length < 3) : (ar3 (ns ++ [v])).setIfInBounds ns.length (.int .i64 u) = ar3 (ns ++ [u]) := by
  match ns, h with
  | [], _ => rfl
  | [_], _ => rfl
  | [_, _], _ => rfl
theorem Ar3.over {w : World} {g k : Nat} {ns : List Int} {v : Int} (h : Ar3 w g (ns ++ [v])) (hn : ns.length = k) (hk : k < 3) (u : Int) : Ar3 (w.setCell ⟨g, k, none⟩ (.int .i64 u)) g (ns ++ [u]) := by
  subst hn
  unfold Ar3
  rw [setCell_eq_setRow w g ns.length _ _ _ _ h, ar3_over ns v u hk]
  exact setRow_heap w g _ _ _ _ h
theorem Ar3.at_ {w : World} {g k : Nat} {ns : List Int} {v : Int} (h : Ar3 w g (ns ++ [v])) (hn : ns.length = k) (hk : k < 3) : w.cell? ⟨g, k, none⟩ = some (.int .i64 v) := by
  subst hn
  rw [cell_of_row w g ns.length _ _ _ h]
  match ns, hk with
  | [], _ => rfl
  | [_], _ => rfl
  | [_, _], _ => rfl
theorem refNums_snoc : ∀ (l : List Txt) (ns : List Int) (t : Txt) (v : Int), refNums l = some ns -> refNum t = some v -> refNums (l ++ [t]) = some (ns ++ [v])
  | [], ns, t, v, h, hv => by
    simp only [refNums, Option.some.injEq] at h; subst h
    simp [refNums, hv]
  | x :: r, ns, t, v, h, hv => by
    rw [refNums] at h
    split at h
    · rename_i a l h1 h2
      injection h with h; subst h
      rw [List.cons_append, refNums, h1, refNums_snoc r l t v h2 hv]; rfl
    · cases h
theorem refNums_none : ∀ (l : List Txt) (k : Nat), k < l.length -> refNum (l.getD k []) = none -> refNums l = none
  | [], k, h, _ => absurd h (by simp)
  | x :: r, 0, _, hn => by rw [List.getD_cons_zero] at hn; rw [refNums, hn]
  | x :: r, k + 1, h, hn => by
    rw [List.getD_cons_succ] at hn
    rw [refNums, refNums_none r k (by simpa using h) hn]
    cases refNum x <;> rfl
theorem refWB_get {K : Nat} (h1 : 1 <= K) (hK : K < 15) : refWB.getD (K - 1) ByteArray.empty = bs (refW K) := by
  obtain rfl | rfl | rfl | rfl | rfl | rfl | rfl | rfl | rfl | rfl | rfl | rfl | rfl | rfl : K = 1 \/ K = 2 \/ K = 3 \/ K = 4 \/ K = 5 \/ K = 6 \/ K = 7 \/ K = 8 \/ K = 9 \/ K = 10 \/ K = 11 \/ K = 12 \/ K = 13 \/ K = 14 := by omega
  all_goals rfl
theorem refW_len {K : Nat} (hK : K < 15) : 2 <= (bs (refW K)).size /\ (bs (refW K)).size <= 20 := by
  rw [bs_size]; unfold refW
  have := words_len K hK
  simp only [List.length_append, List.length_cons, List.length_nil]
  omega
theorem refW_idx {K : Nat} (h1 : 1 <= K) (hK : K < 15) (w : World) : (Instr.index 9 (.string (bs (refW K))) (.int .i64 (((bs (refW K)).size : Nat) - 1 : Int))).run Tryz.prog w = .ok (.int .u8 (48 + (countsL.getD K 0 : Nat) : Int)) w := by
  obtain rfl | rfl | rfl | rfl | rfl | rfl | rfl | rfl | rfl | rfl | rfl | rfl | rfl | rfl : K = 1 \/ K = 2 \/ K = 3 \/ K = 4 \/ K = 5 \/ K = 6 \/ K = 7 \/ K = 8 \/ K = 9 \/ K = 10 \/ K = 11 \/ K = 12 \/ K = 13 \/ K = 14 := by omega
  all_goals kernel_rfl
theorem withinR_is {n lo hi : Int} {b : Bool} (w : World) (h : (decide (lo <= n) && decide (n <= hi)) = b) :
    Calls Tryz.prog 41 #[.int .i64 n, .int .i64 lo, .int .i64 hi] w fun e w' => e = .returned (.bool b) /\ w' = w := by
  subst h; exact withinR n lo hi w
abbrev SpaceTab (B : Nat) (w : World) : Prop := Lib.TabBelow Tryz.prog B w "strings.asciiSpace" .u8 Lib.asciiSpaceTab
set_option maxRecDepth 100000 in
theorem isOrder_any (B : Nat) (o : Order) (w : World) (ho : OrdWf o) (hBs : B <= w.heap.size) (hT : SpaceTab B w) :
    Calls Tryz.prog 67 #[.agg (ordA o)] w fun e w' => e = .returned (.bool (goodO o)) /\ Below w.heap.size w w' := by
  have HW := hd_ (fun w' (hb : Below w.heap.size w w') => wordsOf_any w' (Lib.TabBelow.here (Lib.TabBelow.on hT (hb.mono hBs))))
  clear hT
  obtain ⟨⟨k0, k1⟩, ⟨a0, a1⟩, ⟨b0, b1⟩, ⟨c0, c1⟩⟩ := ho
  have hB0 : Below w.heap.size w (w.alloc (.cells (ordA o) 41)) := (Below.refl _ _).alloc (Nat.le_refl _) _
  have hO0 := OrdAt.new w o
  by_cases hk : 1 <= o.kind /\ o.kind <= 14
  · have HG := hd_ (goodO_okN o hk.1 hk.2)
    obtain ⟨K, hKK⟩ : ∃ K : Nat, o.kind = (K : Int) := ⟨o.kind.toNat, by omega⟩
    have hK : K < 15 := by omega
    have hK1 : 1 <= K := by omega
    have hC3 := counts_le K hK
    have hget := refWB_get hK1 hK
    obtain ⟨hL1, hL2⟩ := refW_len hK
    have hix := refW_idx hK1 hK
    rw [hKK, Int.toNat_natCast] at HG
    obtain ⟨C, hC⟩ : ∃ C, countsL.getD K 0 = C := ⟨_, rfl⟩
    obtain ⟨X, hX⟩ : ∃ X, bs (refW K) = X := ⟨_, rfl⟩
    obtain ⟨L, hL⟩ : ∃ L, X.size = L := ⟨_, rfl⟩
    obtain ⟨J, hJ⟩ : ∃ J, K - 1 = J := ⟨_, rfl⟩
    rw [hX] at hget hL1 hL2 hix
    rw [hL] at hL1 hL2 hix
    rw [hC] at hC3 HG hix
    rw [hJ] at hget
    obtain ⟨kd, a, b, c⟩ := o
    dsimp only at *
    have hsub : kd - 1 = (J : Int) := by omega
    have j0 : (0 : Int) <= J := by omega
    have j1 : (J : Int) < 14 := by omega
    have s0 : (-9223372036854775808 : Int) <= J := by omega
    have s1 : (J : Int) <= 9223372036854775807 := by omega
    have jl : J < 14 := by omega
    have jb : decide ((J : Int) < 14) = true := by simpa using j1
    have hw1 := withinR_is (n := kd) (lo := 1) (hi := 14) (b := true) (h := by simp; omega)
    have HW1 := hd_ hw1
    have q0 : (1 : Int) <= kd := hk.1
    have q1 : kd < 15 := by omega
    have q2 : kd <= 14 := hk.2
    have q3 : kd - 1 < 14 := by omega
    have q4 : 0 <= kd - 1 := by omega
    have hwr : IntKind.i64.wrap (J : Int) = (J : Int) := IntWalk.i64_in _ (by omega)
    clear hC hX hJ hKK hK hK1 hw1 k0 k1 hk K
    obtain ⟨f0, f1, f2, f3, e0, e1, e2, e3⟩ := hO0.facts
    dsimp only at e0 e1 e2 e3
    obtain ⟨W, hW⟩ : ∃ W, W = w.alloc (.cells (ordA ⟨kd, a, b, c⟩) 41) := ⟨_, rfl⟩
    rw [<- hW] at hB0 hO0 e0 e1 e2 e3
    clear f0 f1 f2 f3
    simp only [ordA] at hW ⊢
    go_enter Tryz.func67, Tryz.ntmps67
    go_wp2_with fail
    rw [<- hW]
    clear hW
    go_wp2_with fail
    refine (HW1.out _).mono ?_
    rintro e w1 ⟨rfl, rfl⟩
    go_wp2_with fail
    have hD := hO0
    have hB := hB0
    go_cut [3] (fun x3 wq => x3 = .string X /\ OrdAt wq w.heap.size ⟨kd, a, b, c⟩ /\ Below w.heap.size w wq)
    case first => as_aux_lemma =>
      have hBd : Below w.heap.size w w1.drew := ⟨hB.os, hB.tape, hB.output, hB.size, hB.block⟩
      have hDd : OrdAt w1.drew w.heap.size ⟨kd, a, b, c⟩ := hD
      refine wRP (S := fun w' => w'.cell? ⟨w.heap.size, 0, none⟩ = some (.int .i64 kd)) (.take 1 (.take 2 (.take 3 (.one 0 (.take 4 (.one 5 (.take 6 .fin))))))) (by kernel_rfl) (by kernel_rfl) hDd.cell0 ?_
      iterate 3
        refine pT_ (v := ?_) rfl (by rfl) (fun w' hw' => ?_) ?_
        rotate_left
        · go_simp; try with_reducible rfl
        try simp only [aP, lsA, lsB, lsC, lsD, lsE, lsF]
      refine pO_ rfl (by rfl) fun K hK => ?_
      go_simp
      go_at_call 63
      refine (HW.out _ hBd).mono ?_
      rintro e w5 ⟨A5, c5, rfl, h5, hb5⟩
      have hD5 := hDd.below hb5 hDd.lt
      have hB5 := bLn hBd hb5
      obtain ⟨b5, off5, hA5, hlt5, hc5⟩ := str_at h5 (by rw [refWB_len]; omega)
      subst hA5
      have hcJ := hc5 J (by rw [refWB_len]; omega)
      rw [hget] at hcJ
      rw [refWB_len]
      refine hK.out _ _ hD5.cell0 ?_
      clear hK K hc5 h5
      try simp only [aP, lsA, lsB, lsC, lsD, lsE, lsF]
      refine pT_ (v := ?_) rfl (by rfl) (fun w' hw' => ?_) ?_
      rotate_left
      · go_simp; try with_reducible rfl
      try simp only [aP, lsA, lsB, lsC, lsD, lsE, lsF]
      refine pO_ rfl (by rfl) fun K hK => ?_
      go_simp
      refine hK.out _ _ hD5.cell0 ?_
      clear hK K
      try simp only [aP, lsA, lsB, lsC, lsD, lsE, lsF]
      refine pT_ (v := ?_) rfl (by rfl) (fun w' hw' => ?_) ?_
      rotate_left
      · go_simp; try with_reducible rfl
      try simp only [aP, lsA, lsB, lsC, lsD, lsE, lsF]
      refine pD_ (NoPanic.normal ?_)
      all_goals
        go_wp2_with fail
        go_meet
        exact ⟨rfl, hD5, hB5⟩
    clear hD hB hO0 hB0 e0 e1 e2 e3 HW HW1 hget
    obtain ⟨rfl, hD, hB⟩ := hcut
    obtain ⟨f0, f1, f2, f3, e0, e1, e2, e3⟩ := hD.facts
    dsimp only at e0 e1 e2 e3
    clear f0 f1 f2 f3 hD
    have hwL : IntKind.i64.wrap ((L : Int) - 1) = (L : Int) - 1 := IntWalk.i64_in _ (by omega)
    have hwC : IntKind.i64.wrap (C : Int) = (C : Int) := IntWalk.i64_in _ (by omega)
    have hwC2 : IntKind.i64.wrap (48 + (C : Int)) = 48 + (C : Int) := IntWalk.i64_in _ (by omega)
    have hsC : 48 + (C : Int) - 48 = (C : Int) := by omega
    clear hsub j0 j1 s0 s1 jl jb q0 q1 q2 q3 q4 hwr
    obtain ⟨ci, hci⟩ : ∃ ci : Int, (C : Int) = ci := ⟨_, rfl⟩
    rw [hci] at hix hwC hwC2 hsC
    have HCI := hd_ hci
    clear hci
    go_wp2_with fail
    have hB3 := hB.alloc hB.size (.cells #[.int .i64 a, .int .i64 b, .int .i64 c] 3)
    clear e0 e1 e2 e3 hB hix hL hL1 hL2 hwL hwC hwC2 hsC
    go_loopw [34] (fun i wr => ∃ k : Int, 0 <= k /\ k <= 3 /\ i = .int .i64 k /\ wr = wc.alloc (.cells #[.int .i64 a, .int .i64 b, .int .i64 c] 3) /\ ∀ j, 0 <= j -> j < k -> okN C j (nth3 a b c j) = true) (fun i _ => (3 - intOf i).toNat)
    case atStart => exact ⟨0, by omega, by omega, rfl, rfl, fun j h1 h2 => by omega⟩
    case round =>
      obtain ⟨k, hk0, hk3, rfl, rfl, hall⟩ := hrel
      have HA := hd_ hall
      clear hall
      obtain rfl | rfl | rfl | rfl : k = 0 \/ k = 1 \/ k = 2 \/ k = 3 := by omega
      · cases hok : okN C 0 a with
        | true =>
          obtain ⟨g1, g2, g3⟩ := okN_yes hok
          have HOK := hd_ hok
          clear hok
          have HI := hd_ (fun w => withinR_is (n := a) (lo := -1073741824) (hi := 1073741824) (b := true) w (by simp; omega))
          by_cases hc : ci <= 0
          · obtain rfl : a = 0 := by have := HCI.out; omega
            have l3 : decide (ci <= 0) = true := by simpa using hc
            go_wp2_with fail
            refine (HI.out _).mono ?_
            rintro e wz ⟨rfl, rfl⟩
            go_wp2_with fail
            go_roundw
            case rel => exact ⟨1, by omega, by omega, rfl, by first | trivial | rfl, fun j h1 h2 => by
              obtain h | rfl : j < 0 \/ j = 0 := by omega
              · exact HA.out j h1 h
              · exact HOK.out⟩
            case measure => simp [intOf]
          · have l3 : decide (ci <= 0) = false := by simpa using hc
            go_wp2_with fail
            refine (HI.out _).mono ?_
            rintro e wz ⟨rfl, rfl⟩
            go_wp2_with fail
            go_roundw
            case rel => exact ⟨1, by omega, by omega, rfl, by first | trivial | rfl, fun j h1 h2 => by
              obtain h | rfl : j < 0 \/ j = 0 := by omega
              · exact HA.out j h1 h
              · exact HOK.out⟩
            case measure => simp [intOf]
        | false =>
          have HF := hd_ (show goodO ⟨kd, a, b, c⟩ = false by rw [HG.out, hok]; simp)
          have hno : a < -1073741824 \/ 1073741824 < a \/ ((C : Int) <= 0 /\ a ≠ 0) := by
            simp only [okN, inLim, Bool.and_eq_false_iff, Bool.or_eq_false_iff, decide_eq_false_iff_not] at hok
            omega
          clear hok
          by_cases h1 : -1073741824 <= a /\ a <= 1073741824
          · have HI := hd_ (fun w => withinR_is (n := a) (lo := -1073741824) (hi := 1073741824) (b := true) w (by simp; omega))
            have hck : ci <= 0 := by have := HCI.out; omega
            have l3 : decide (ci <= 0) = true := by simpa using hck
            have l4 : (a == 0) = false := by simp; omega
            have l5 : (a != 0) = true := by simp; omega
            have l6 : a ≠ 0 := by omega
            clear hno
            go_wp2_with fail
            refine (HI.out _).mono ?_
            rintro e wz ⟨rfl, rfl⟩
            go_wp2_with fail
            go_ret
            exact ⟨ret_bool2 HF.out.symm, hB3⟩
          · have HI := hd_ (fun w => withinR_is (n := a) (lo := -1073741824) (hi := 1073741824) (b := false) w (by rw [<- Bool.not_eq_true]; simp; omega))
            clear hno
            go_wp2_with fail
            refine (HI.out _).mono ?_
            rintro e wz ⟨rfl, rfl⟩
            go_wp2_with fail
            go_ret
            exact ⟨ret_bool2 HF.out.symm, hB3⟩
      · cases hok : okN C 1 b with
        | true =>
          obtain ⟨g1, g2, g3⟩ := okN_yes hok
          have HOK := hd_ hok
          clear hok
          have HI := hd_ (fun w => withinR_is (n := b) (lo := -1073741824) (hi := 1073741824) (b := true) w (by simp; omega))
          by_cases hc : ci <= 1
          · obtain rfl : b = 0 := by have := HCI.out; omega
            have l3 : decide (ci <= 1) = true := by simpa using hc
            go_wp2_with fail
            refine (HI.out _).mono ?_
            rintro e wz ⟨rfl, rfl⟩
            go_wp2_with fail
            go_roundw
            case rel => exact ⟨2, by omega, by omega, rfl, by first | trivial | rfl, fun j h1 h2 => by
              obtain h | rfl : j < 1 \/ j = 1 := by omega
              · exact HA.out j h1 h
              · exact HOK.out⟩
            case measure => simp [intOf]
          · have l3 : decide (ci <= 1) = false := by simpa using hc
            go_wp2_with fail
            refine (HI.out _).mono ?_
            rintro e wz ⟨rfl, rfl⟩
            go_wp2_with fail
            go_roundw
            case rel => exact ⟨2, by omega, by omega, rfl, by first | trivial | rfl, fun j h1 h2 => by
              obtain h | rfl : j < 1 \/ j = 1 := by omega
              · exact HA.out j h1 h
              · exact HOK.out⟩
            case measure => simp [intOf]
        | false =>
          have HF := hd_ (show goodO ⟨kd, a, b, c⟩ = false by rw [HG.out, hok]; simp)
          have hno : b < -1073741824 \/ 1073741824 < b \/ ((C : Int) <= 1 /\ b ≠ 0) := by
            simp only [okN, inLim, Bool.and_eq_false_iff, Bool.or_eq_false_iff, decide_eq_false_iff_not] at hok
            omega
          clear hok
          by_cases h1 : -1073741824 <= b /\ b <= 1073741824
          · have HI := hd_ (fun w => withinR_is (n := b) (lo := -1073741824) (hi := 1073741824) (b := true) w (by simp; omega))
            have hck : ci <= 1 := by have := HCI.out; omega
            have l3 : decide (ci <= 1) = true := by simpa using hck
            have l4 : (b == 0) = false := by simp; omega
            have l5 : (b != 0) = true := by simp; omega
            have l6 : b ≠ 0 := by omega
            clear hno
            go_wp2_with fail
            refine (HI.out _).mono ?_
            rintro e wz ⟨rfl, rfl⟩
            go_wp2_with fail
            go_ret
            exact ⟨ret_bool2 HF.out.symm, hB3⟩
          · have HI := hd_ (fun w => withinR_is (n := b) (lo := -1073741824) (hi := 1073741824) (b := false) w (by rw [<- Bool.not_eq_true]; simp; omega))
            clear hno
            go_wp2_with fail
            refine (HI.out _).mono ?_
            rintro e wz ⟨rfl, rfl⟩
            go_wp2_with fail
            go_ret
            exact ⟨ret_bool2 HF.out.symm, hB3⟩
      · cases hok : okN C 2 c with
        | true =>
          obtain ⟨g1, g2, g3⟩ := okN_yes hok
          have HOK := hd_ hok
          clear hok
          have HI := hd_ (fun w => withinR_is (n := c) (lo := -1073741824) (hi := 1073741824) (b := true) w (by simp; omega))
          by_cases hc : ci <= 2
          · obtain rfl : c = 0 := by have := HCI.out; omega
            have l3 : decide (ci <= 2) = true := by simpa using hc
            go_wp2_with fail
            refine (HI.out _).mono ?_
            rintro e wz ⟨rfl, rfl⟩
            go_wp2_with fail
            go_roundw
            case rel => exact ⟨3, by omega, by omega, rfl, by first | trivial | rfl, fun j h1 h2 => by
              obtain h | rfl : j < 2 \/ j = 2 := by omega
              · exact HA.out j h1 h
              · exact HOK.out⟩
            case measure => simp [intOf]
          · have l3 : decide (ci <= 2) = false := by simpa using hc
            go_wp2_with fail
            refine (HI.out _).mono ?_
            rintro e wz ⟨rfl, rfl⟩
            go_wp2_with fail
            go_roundw
            case rel => exact ⟨3, by omega, by omega, rfl, by first | trivial | rfl, fun j h1 h2 => by
              obtain h | rfl : j < 2 \/ j = 2 := by omega
              · exact HA.out j h1 h
              · exact HOK.out⟩
            case measure => simp [intOf]
        | false =>
          have HF := hd_ (show goodO ⟨kd, a, b, c⟩ = false by rw [HG.out, hok]; simp)
          have hno : c < -1073741824 \/ 1073741824 < c \/ ((C : Int) <= 2 /\ c ≠ 0) := by
            simp only [okN, inLim, Bool.and_eq_false_iff, Bool.or_eq_false_iff, decide_eq_false_iff_not] at hok
            omega
          clear hok
          by_cases h1 : -1073741824 <= c /\ c <= 1073741824
          · have HI := hd_ (fun w => withinR_is (n := c) (lo := -1073741824) (hi := 1073741824) (b := true) w (by simp; omega))
            have hck : ci <= 2 := by have := HCI.out; omega
            have l3 : decide (ci <= 2) = true := by simpa using hck
            have l4 : (c == 0) = false := by simp; omega
            have l5 : (c != 0) = true := by simp; omega
            have l6 : c ≠ 0 := by omega
            clear hno
            go_wp2_with fail
            refine (HI.out _).mono ?_
            rintro e wz ⟨rfl, rfl⟩
            go_wp2_with fail
            go_ret
            exact ⟨ret_bool2 HF.out.symm, hB3⟩
          · have HI := hd_ (fun w => withinR_is (n := c) (lo := -1073741824) (hi := 1073741824) (b := false) w (by rw [<- Bool.not_eq_true]; simp; omega))
            clear hno
            go_wp2_with fail
            refine (HI.out _).mono ?_
            rintro e wz ⟨rfl, rfl⟩
            go_wp2_with fail
            go_ret
            exact ⟨ret_bool2 HF.out.symm, hB3⟩
      · go_wp2_with fail
        go_ret
        refine ⟨ret_bool2 ?_, hB3⟩
        have h0 := HA.out 0 (by omega) (by omega)
        have h1 := HA.out 1 (by omega) (by omega)
        have h2 := HA.out 2 (by omega) (by omega)
        simp only [nth3] at h0 h1 h2
        rw [HG.out, show okN C 0 a = true from h0, show okN C 1 b = true from h1, show okN C 2 c = true from h2]; rfl
  · rw [goodO_kind hk]
    obtain ⟨kd, a, b, c⟩ := o
    dsimp only at *
    have hw1 := withinR_is (n := kd) (lo := 1) (hi := 14) (b := false) (h := by simp; omega)
    have HW1 := hd_ hw1
    clear HW hw1 hk
    simp only [ordA] at hB0 ⊢
    go_enter Tryz.func67, Tryz.ntmps67
    go_wp2_with fail
    refine (HW1.out _).mono ?_
    rintro e w1 ⟨rfl, rfl⟩
    go_wp2_with fail
    go_ret
    exact ⟨rfl, hB0⟩
theorem refW_cut {K : Nat} (h1 : 1 <= K) (hK : K < 15) (w : World) : (Instr.slice 9 (.string (bs (refW K))) none (some (.int .i64 (((bs (refW K)).size : Nat) - 2 : Int))) none).run Tryz.prog w = .ok (.string (bs (wordsL.getD K []))) w := by
  obtain rfl | rfl | rfl | rfl | rfl | rfl | rfl | rfl | rfl | rfl | rfl | rfl | rfl | rfl : K = 1 \/ K = 2 \/ K = 3 \/ K = 4 \/ K = 5 \/ K = 6 \/ K = 7 \/ K = 8 \/ K = 9 \/ K = 10 \/ K = 11 \/ K = 12 \/ K = 13 \/ K = 14 := by omega
  all_goals kernel_rfl
end Go.Proofs.YtifmdkcpbajdcabGreatDoor
