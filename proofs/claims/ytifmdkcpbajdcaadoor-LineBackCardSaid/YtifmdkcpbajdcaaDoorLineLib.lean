/- Contracts: what the lines' functions ask of Go's library. -/
import Derived.Test.YtifmdkcpbajdcaaDoorLineMem
import Derived.Test.YtifmdkcpbajdcaaDoorShelf
import Derived.Lib.AtoiErrMem
namespace Go.Proofs.YtifmdkcpbajdcaaDoor
open Go.RowKit Go.Proofs Plain

def RetStr (l : List ByteArray) (w : World) (e : Ending) (w' : World) : Prop :=
  ∃ A c, e = .returned (.slice A l.length c) ∧ StrAt w' A l ∧ Below w.heap.size w w'

theorem split_any (B : Nat) (s : ByteArray) (w : World) (hL : LineAt B w) (hs : s.size ≤ 60) :
    Calls Tryd.prog 9 #[.string s, .string { data := #[32] }] w (RetStr (pieces s) w) := by
  obtain ⟨m, hm⟩ := hL.maxl
  refine (Tryd.strings_Split s ⟨#[32]⟩ m w (by omega) hm (Nat.le_refl _)).mono ?_
  rintro e w' ⟨rfl, rfl⟩
  have hl : (pieces s).length = Lib.countB s ⟨#[32]⟩ + 1 := Lib.splitB_all ⟨#[32]⟩ (Nat.le_refl _) 0 _ s rfl
  refine ⟨_, Lib.countB s ⟨#[32]⟩ + 1, by rw [hl], ?_, (Below.refl _ _).alloc (Nat.le_refl _) _⟩
  have h := Sl.new (size := 1) (n := (pieces s).length) w ((pieces s).map Value.string).toArray 9 (by simp)
  rw [List.toList_toArray] at h
  exact h

theorem hasword_any (b off c : Nat) (x : ByteArray) (w : World) (hc : ∀ j, j < 15 → w.cell? ⟨b, off + j, none⟩ = some (.string (bs (wordsL.getD j [])))) :
    Calls Tryd.prog 10 #[.slice (some ⟨b, off + 1, none⟩) 14 c, .string x] w fun e w' => e = .returned (.bool (isWord x.data.toList)) ∧ w' = w := by
  have hl : (wordsB.drop 1).length = 14 := by simp [wordsB, wordsL]
  refine (Tryd.slices_Contains_string b (off + 1) 14 c (wordsB.drop 1) x w (by omega) (by decide) (fun j hj => ?_)).mono ?_
  · rw [hl] at hj
    have := hc (j + 1) (by omega)
    rw [show off + 1 + j = off + (j + 1) by omega, this]
    congr 2
    rw [List.getD_eq_getElem?_getD, List.getD_eq_getElem?_getD, List.getElem?_drop, wordsB, List.getElem?_map, Nat.add_comm 1 j, List.getElem?_eq_getElem (by simp [wordsL]; omega)]
    rfl
  · rintro e w' ⟨rfl, rfl⟩
    rw [List.take_of_length_le (by omega)]
    have := word_in x.data.toList
    rw [bs_back] at this
    rw [this]
    exact ⟨rfl, rfl⟩

theorem kind_any (b off c : Nat) (x : ByteArray) (w : World) (hx : isWord x.data.toList = true) (hc : ∀ j, j < 15 → w.cell? ⟨b, off + j, none⟩ = some (.string (bs (wordsL.getD j [])))) :
    Calls Tryd.prog 11 #[.slice (some ⟨b, off, none⟩) 15 c, .string x] w fun e w' => e = .returned (.int .i64 (kindOf x.data.toList : Nat)) ∧ w' = w := by
  have hl : wordsB.length = 15 := by simp [wordsB, wordsL]
  have hg : ∀ j, j < 15 → wordsB.getD j ByteArray.empty = bs (wordsL.getD j []) := fun j hj => by
    rw [List.getD_eq_getElem?_getD, List.getD_eq_getElem?_getD, wordsB, List.getElem?_map, List.getElem?_eq_getElem (by simp [wordsL]; omega)]
    rfl
  simp only [isWord, Bool.and_eq_true, decide_eq_true_eq] at hx
  refine (Tryd.slices_Index_string b off 15 c wordsB x w (by omega) (by decide) (fun j hj => ?_)).mono ?_
  · rw [hl] at hj
    rw [hc j hj, hg j hj]
  · rintro e w' ⟨rfl, rfl⟩
    rw [Lib.idxOfS_hit wordsB 15 (kindOf x.data.toList) x (by omega) (by omega) ?_ ?_]
    · exact ⟨rfl, rfl⟩
    · rw [hg _ (by omega)]
      have hlt : kindOf x.data.toList < wordsL.length := by simp [wordsL]; omega
      have := List.getElem_idxOf (x := x.data.toList) (xs := wordsL) hlt
      rw [List.getD_eq_getElem?_getD, List.getElem?_eq_getElem hlt]
      show bs (wordsL[kindOf x.data.toList]) = x
      have h2 : wordsL[kindOf x.data.toList] = x.data.toList := this
      rw [h2, bs_back]
    · intro j hj e
      rw [hg j (by omega)] at e
      have := words_kind j (by omega)
      rw [← bs_list (wordsL.getD j []), e] at this
      omega

theorem atoi_ok (B : Nat) (s : ByteArray) (v : Int) (w : World) (_hL : LineAt B w) (hs : s.size ≤ 60) (h : Lib.atoiAll s.data.toList = .ok v) :
    Calls Tryd.prog 12 #[.string s] w fun e w' => e = .returned (.tuple #[.int .i64 v, .nilIface]) ∧ Below w.heap.size w w' := by
  refine (Tryd.strconv_Atoi_ok s (by omega) v h w).mono ?_
  rintro e w' ⟨rfl, hw⟩
  refine ⟨rfl, ?_⟩
  rcases hw with rfl | ⟨t, rfl⟩
  · exact Below.refl _ _
  · exact Lib.bytesWorld_below _ _ _

def RetNo (w : World) (e : Ending) (w' : World) : Prop := ∃ v t p, e = .returned (.tuple #[.int .i64 v, .iface t p]) ∧ Below w.heap.size w w'

theorem atoi_no (B : Nat) (s : ByteArray) (w : World) (hL : LineAt B w) (hs : s.size ≤ 60) (h : ∀ v, Lib.atoiAll s.data.toList ≠ .ok v) :
    Calls Tryd.prog 12 #[.string s] w (RetNo w) := by
  obtain ⟨t1, p1, h1⟩ := hL.synt
  obtain ⟨t2, p2, h2⟩ := hL.rang
  rcases hq : Lib.atoiAll s.data.toList with v | _ | _
  · exact absurd hq (h v)
  · refine (Any.strconv_Atoi_syntax Tryd.laysC172 s (by omega) hq _ w h1 (.inr ⟨_, _, rfl⟩)).mono ?_
    rintro e w' ⟨N, rfl, _, _, hb⟩
    exact ⟨_, _, _, rfl, hb⟩
  · refine (Any.strconv_Atoi_range Tryd.laysC172 s (by omega) hq _ w h2 (.inr ⟨_, _, rfl⟩)).mono ?_
    rintro e w' ⟨N, rfl, _, _, hb⟩
    exact ⟨_, _, _, rfl, hb⟩

theorem itoa_any (B : Nat) (n : Int) (w : World) (hL : LineAt B w) (h0 : -9223372036854775808 ≤ n) (h1 : n ≤ 9223372036854775807) :
    Calls Tryd.prog 8 #[.int .i64 n] w fun e w' => e = .returned (.string (bs (Lib.itoa n))) ∧ Below w.heap.size w w' := by
  refine (Tryd.strconv_Itoa n h0 h1 w hL.pow.here).mono ?_
  rintro e w' ⟨rfl, k, os, rfl⟩
  refine ⟨rfl, ⟨rfl, rfl, rfl, by simp [Go.Sort.grow], fun i hi => ?_⟩⟩
  show ((w.drewN k).heap ++ os)[i]? = w.heap[i]?
  rw [Array.getElem?_append_left (by exact hi)]; rfl
end Go.Proofs.YtifmdkcpbajdcaaDoor
