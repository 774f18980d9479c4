/- Walks: reading a line, in the document's own words: its parts. -/
import Derived.Test.YtifmdkcpbajdcabGreatDoorRefLin
import Derived.Lib.ConvBytes
set_option linter.unusedVariables false
set_option linter.unusedSimpArgs false
namespace Go.Proofs.YtifmdkcpbajdcabGreatDoor
open Go.RowKit Go.Proofs Plain
open Go.Act renaming put -> aP, eval -> aE
open Go.Lib renaming hid -> hd_
theorem toksGo_end : ∀ (s acc : Txt), toksGo acc (s ++ [32]) = toksGo acc s
  | [], acc => by
    by_cases h : acc = []
    · simp [h, toksGo]
    · simp [h, toksGo]
  | c :: r, acc => by
    rw [List.cons_append, toksGo, toksGo, toksGo_end r [], toksGo_end r (acc ++ [c])]
theorem none_any (w : World) : Calls Tryz.prog 62 #[] w fun e w' => e = .returned (.tuple #[.agg (ordA noO), .int .i64 1]) /\ Below w.heap.size w w' := by
  go_enter Tryz.func62, Tryz.ntmps62
  go_wp2_with fail
  refine bodyPost_ret (rOr rfl _ _ w.heap.size rfl (OrdAt.new w noO)) rfl ?_
  exact ⟨rfl, (Below.refl _ _).alloc (Nat.le_refl _) _⟩
structure TokAt (t : Txt) (k : Nat) (L : List ByteArray) (u : Txt) : Prop where
  le : k <= t.length + 1
  all : L.map (·.data.toList) ++ toksGo u ((t ++ [32]).drop k) = toks t
  last : k = t.length + 1 -> u = []
  ulen : u.length <= k
  llen : L.length <= k
theorem TokAt.start (t : Txt) : TokAt t 0 [] [] := ⟨by omega, by simp [toksGo_end, toks], fun h => by omega, by simp, by simp⟩
theorem tok_drop {t : Txt} {k : Nat} {c : UInt8} (h : (t ++ [32])[k]? = some c) : (t ++ [32]).drop k = c :: (t ++ [32]).drop (k + 1) := by
  obtain ⟨hk, e⟩ := List.getElem?_eq_some_iff.1 h
  rw [List.drop_eq_getElem_cons hk, e]
theorem TokAt.plain {t : Txt} {k : Nat} {L : List ByteArray} {u : Txt} {c : UInt8} (h : TokAt t k L u) (hc : (t ++ [32])[k]? = some c) (hn : c ≠ 32) : TokAt t (k + 1) L (u ++ [c]) := by
  have hk := (List.getElem?_eq_some_iff.1 hc).1
  simp at hk
  refine ⟨by omega, ?_, fun e => ?_, ?_, ?_⟩
  · rw [<- h.all, tok_drop hc, toksGo, if_neg hn]
  · exfalso
    have hk2 : k = t.length := by omega
    rw [hk2] at hc
    simp at hc
    exact hn hc.symm
  · have := h.ulen; simp; omega
  · have := h.llen; omega
theorem TokAt.word {t : Txt} {k : Nat} {L : List ByteArray} {u : Txt} (h : TokAt t k L u) (hc : (t ++ [32])[k]? = some 32) (hu : u ≠ []) : TokAt t (k + 1) (L ++ [bs u]) [] := by
  have hk := (List.getElem?_eq_some_iff.1 hc).1
  simp at hk
  refine ⟨by omega, ?_, fun _ => rfl, by simp, ?_⟩
  · rw [<- h.all, tok_drop hc, toksGo, if_pos rfl, if_neg hu, List.map_append, List.append_assoc]
    simp [bs]
  · have := h.llen; simp; omega
theorem TokAt.space {t : Txt} {k : Nat} {L : List ByteArray} (h : TokAt t k L []) (hc : (t ++ [32])[k]? = some 32) : TokAt t (k + 1) L [] := by
  have hk := (List.getElem?_eq_some_iff.1 hc).1
  simp at hk
  refine ⟨by omega, ?_, fun _ => rfl, by simp, ?_⟩
  · rw [<- h.all, tok_drop hc, toksGo, if_pos rfl, if_pos rfl]
  · have := h.llen; omega
theorem TokAt.done {t : Txt} {L : List ByteArray} {u : Txt} (h : TokAt t (t.length + 1) L u) : L.map (·.data.toList) = toks t := by
  have h2 := h.all
  rw [h.last rfl, List.drop_of_length_le (by simp), toksGo, if_pos rfl, List.append_nil] at h2
  exact h2
def spaced (s : ByteArray) : ByteArray := s ++ ⟨#[32]⟩
theorem spaced_list (s : ByteArray) : (spaced s).data.toList = s.data.toList ++ [32] := by simp [spaced, ByteArray.data_append]
theorem spaced_size (s : ByteArray) : (spaced s).size = s.size + 1 := by simp [spaced, ByteArray.size_append]; rfl
theorem conv_bytes (W : World) (s : ByteArray) : (convert 9 109 (.string s)).run Tryz.prog W = .ok (.slice (some ⟨W.heap.size, 0, none⟩) s.size (grownCap W s.size 0 5)) (Lib.bytesWorld W 5 s) :=
  Lib.run_convert_string_bytes W 9 109 5 s Tryz.underlying9 Tryz.underlying109 Tryz.underlying5
theorem rest_slice (b off n c : Nat) (h : n + 1 <= c) (hn : n <= 61) : ∃ A d, (∀ w, (Instr.slice 22 (.slice (some ⟨b, off, none⟩) (n + 1) c) (some (.int .i64 1)) none none).run Tryz.prog w = .ok (.slice A n d) w) /\ (0 < n -> A = some ⟨b, off + 1, none⟩) := by
  have hu := Tryz.underlying22
  by_cases h1 : c = 1
  · obtain rfl : n = 0 := by omega
    refine ⟨some ⟨b, off, none⟩, 0, fun w => ?_, fun h => by omega⟩
    subst h1
    go_simp
  · have h2 : (1 : Int) <= (n : Int) + 1 := by omega
    refine ⟨some ⟨b, off + 1, none⟩, c - 1, fun w => ?_, fun h => rfl⟩
    go_simp
theorem refNum_lim {x : Txt} {v : Int} (h : refNum x = some v) : -10000000000 < v /\ v < 10000000000 := by
  unfold refNum at h
  split at h
  · cases h
  · rename_i hn
    split at h
    · injection h with h
      have hl : (bare x).length <= 10 := Nat.not_lt.1 fun h => hn (.inr (.inl h))
      have ha : (bare x).all isDig = true := by
        cases hq : (bare x).all isDig with
        | true => rfl
        | false => exact absurd (.inr (.inr hq)) hn
      have h1 := numVal_lt (bare x).length (bare x) rfl ha
      have h2 : numVal 0 (bare x) < 10 ^ 10 := Nat.lt_of_lt_of_le h1 (Nat.pow_le_pow_right (by omega) hl)
      rw [<- h]
      unfold signed
      split <;> omega
    · cases h
theorem refNums_lim : ∀ (l : List Txt) (ns : List Int), refNums l = some ns -> ∀ i, -10000000000 < ns.getD i 0 /\ ns.getD i 0 < 10000000000
  | [], ns, h, i => by simp only [refNums, Option.some.injEq] at h; subst h; simp
  | x :: r, ns, h, i => by
    rw [refNums] at h
    split at h
    · rename_i v l h1 h2
      injection h with h; subst h
      cases i with
      | zero => rw [List.getD_cons_zero]; exact refNum_lim h1
      | succ i => rw [List.getD_cons_succ]; exact refNums_lim r l h2 i
    · cases h
theorem bare_le (x : Txt) : (bare x).length <= x.length := by unfold bare; split <;> simp
theorem hit_refT {x : Txt} {r : List Txt} {j : Nat} (hj : j < 14) (hx : x = wordsL.getD (j + 1) []) (hr : r.length = countsL.getD (j + 1) 0) : parseT (x :: r) = refT (j + 1) r := by
  subst hx
  have hk := words_kind (j + 1) (by omega)
  unfold parseT
  dsimp only
  rw [hk, if_pos ⟨by omega, by omega, hr⟩, refT_eq (by omega) (by omega) hr]
theorem refT_none {k : Nat} {r : List Txt} (h : refNums r = none) : refT k r = none := by unfold refT; rw [h]
theorem trimP_any (y : ByteArray) (w : World) : Calls Tryz.prog 64 #[.string y, .string { data := #[45] }] w fun e w' => e = .returned (.string (bs (bare y.data.toList))) /\ w' = w := by
  have h := Tryz.strings_TrimPrefix y { data := #[45] } w
  rw [show ({ data := #[45] } : ByteArray).data.toList = [45] from rfl, bare_trim] at h
  exact h
theorem trimD_any (d : Txt) (w : World) (hd : d.length <= 60) : Calls Tryz.prog 65 #[.string (bs d), .string { data := #[48, 49, 50, 51, 52, 53, 54, 55, 56, 57] }] w fun e w' => e = .returned (.string (bs (Lib.trimS d digits))) /\ Below w.heap.size w w' := by
  have h := Tryz.strings_Trim (bs d) { data := #[48, 49, 50, 51, 52, 53, 54, 55, 56, 57] } w (by rw [bs_size]; omega) (by decide) (fun j b hb => by
    have hm := List.mem_of_getElem? hb
    have : ∀ x ∈ ({ data := #[48, 49, 50, 51, 52, 53, 54, 55, 56, 57] } : ByteArray).data.toList, x.toNat < 128 := by decide +kernel
    exact this b hm)
  rw [bs_list] at h
  exact h
def Hit (L : List ByteArray) (j : Nat) : Prop := ∃ x r, L = x :: r /\ x.data.toList = wordsL.getD (j + 1) [] /\ r.length = countsL.getD (j + 1) 0
theorem no_hit {L : List ByteArray} (h : ∀ j, j < 14 -> ¬ Hit L j) : parseT (L.map (·.data.toList)) = none := by
  cases L with
  | nil => rfl
  | cons x r =>
    rw [List.map_cons]
    cases hw : isWord x.data.toList with
    | false => exact parse_word hw
    | true =>
      rw [parse_kind hw]
      have hw' := hw
      simp only [isWord, Bool.and_eq_true, decide_eq_true_eq] at hw'
      have hlt : kindOf x.data.toList < wordsL.length := by simp [wordsL]; omega
      have h2 : wordsL[kindOf x.data.toList] = x.data.toList := List.getElem_idxOf (x := x.data.toList) (xs := wordsL) hlt
      rw [if_neg fun e => ?_]
      refine h (kindOf x.data.toList - 1) (by omega) ⟨x, r, rfl, ?_, ?_⟩
      · rw [show kindOf x.data.toList - 1 + 1 = kindOf x.data.toList by omega, List.getD_eq_getElem?_getD, List.getElem?_eq_getElem hlt, Option.getD_some, h2]
      · rw [show kindOf x.data.toList - 1 + 1 = kindOf x.data.toList by omega, <- e, List.length_map]
set_option maxRecDepth 100000 in
set_option maxHeartbeats 16000000 in
theorem refParse_any (B : Nat) (s : ByteArray) (w : World) (hBs : B <= w.heap.size) (hT : SpaceTab B w) (hs : s.size <= maxLen) :
    Calls Tryz.prog 40 #[.string s] w (RetParse (parseL s.data.toList) w) := by
  unfold maxLen at hs
  have hB0 : Below w.heap.size w (w.alloc (.cells (ordA noO) 41)) := (Below.refl _ _).alloc (Nat.le_refl _) _
  have hO0 := OrdAt.new w noO
  have HN := hd_ none_any
  have HW := hd_ (fun w' (hb : Below w.heap.size w w') => wordsOf_any w' (Lib.TabBelow.here (Lib.TabBelow.on hT (hb.mono hBs))))
  have HIs := hd_ (fun o ho w' (hb : Below w.heap.size w w') => isOrder_any B o w' ho (Nat.le_trans hBs hb.size) (Lib.TabBelow.on hT (hb.mono hBs)))
  by_cases h60 : 60 < s.size
  · rw [parse_long (by rw [Array.length_toList]; exact h60)]
    simp only [ordA, noO] at hB0 hO0
    go_enter Tryz.func40, Tryz.ntmps40
    go_wp2_with fail
    refine (HN.out _).mono ?_
    rintro e w1 ⟨rfl, hb1⟩
    have hO1 := hO0.below hb1 (OrdAt.lt hO0)
    go_wp2_with (refine wSO (p := noO) (q := noO) rfl rfl (by first | rfl | simp [aE, aP]) (by first | rfl | simp [aE, aP]) hO1 ?_; intro w3 hO3 hb3)
    refine bodyPost_ret (rOr rfl _ _ w.heap.size rfl hO3) rfl ?_
    exact ⟨rfl, (bLn hB0 hb1).trans hb3⟩
  · obtain ⟨ans, hans⟩ : ∃ ans, parseL s.data.toList = ans := ⟨_, rfl⟩
    rw [hans]
    have HA := hd_ hans
    clear hans
    have hcv := fun W => conv_bytes W (spaced s)
    unfold spaced at hcv
    have hsz0 : (w.alloc (.cells #[.int .i64 0, .int .i64 0, .int .i64 0, .int .i64 0] 41)).heap.size = w.heap.size + 1 := by simp
    obtain ⟨W0, hW0⟩ : ∃ W0, w.alloc (.cells #[.int .i64 0, .int .i64 0, .int .i64 0, .int .i64 0] 41) = W0 := ⟨_, rfl⟩
    simp only [ordA, noO] at hB0 hO0
    rw [hW0] at hsz0 hB0 hO0
    have hb1 := Lib.bytesWorld_below W0 5 (s ++ ⟨#[32]⟩)
    have hsl : (s ++ ⟨#[32]⟩ : ByteArray).data.toList = s.data.toList ++ [32] := spaced_list s
    have hss : (s ++ ⟨#[32]⟩ : ByteArray).size = s.size + 1 := spaced_size s
    have hcs : ∀ j, j < s.size + 1 -> (Lib.bytesWorld W0 5 (s ++ ⟨#[32]⟩)).cell? ⟨w.heap.size + 1, j, none⟩ = some (.int .u8 ((s.data.toList ++ [32]).getD j 0).toNat) := fun j hj => by
      rw [<- hsz0, Lib.bytesWorld_cell W0 5 _ j (by omega), hsl]
    have hgl : w.heap.size + 1 < (Lib.bytesWorld W0 5 (s ++ ⟨#[32]⟩)).heap.size := by rw [Lib.bytesWorld_size]; omega
    have hO1 := OrdAt.below hO0 hb1 (OrdAt.lt hO0)
    have hB1 := bLn hB0 hb1
    have HW0 := hd_ hW0
    have HCS := hd_ hcs
    have HSZ := hd_ h60
    have hsm : (s.size : Int) <= 60 := by omega
    have hd60 : decide (60 < (s.size : Int)) = false := by simp; omega
    clear hW0 hb1 hsl hss hcs hs hsz0 h60 hO0 hB0 hBs
    go_enter Tryz.func40, Tryz.ntmps40
    go_wp2_with fail
    rw [HW0.out]
    obtain ⟨W1, hW1⟩ : ∃ W1, Lib.bytesWorld W0 5 (s ++ ⟨#[32]⟩) = W1 := ⟨_, rfl⟩
    rw [hW1] at hO1 hB1 HCS hgl
    rw [hW1]
    obtain ⟨cp, hcp⟩ : ∃ cp, grownCap W0 (s.size + 1) 0 5 = cp := ⟨_, rfl⟩
    rw [hcp]
    clear hW1 hcp HW0 hcv
    obtain ⟨g, hg⟩ : ∃ g, w.heap.size + 1 = g := ⟨_, rfl⟩
    rw [hg] at HCS hgl
    rw [hg]
    clear hg
    go_loopw [5, 6, 29] (fun l z i wr => ∃ (k : Nat) (L : List ByteArray) (u : Txt), i = .int .i64 k /\ z = .string (bs u) /\ OwnT wr W1.heap.size l L /\ TokAt s.data.toList k L u /\ Below W1.heap.size W1 wr) (fun _ _ i _ => s.size + 1 - (intOf i).toNat)
    case atStart => exact ⟨0, [], [], rfl, rfl, ⟨by simp [strV], .inl ⟨rfl, rfl⟩⟩, TokAt.start _, Below.refl _ _⟩
    case round =>
      obtain ⟨k, L, u, rfl, rfl, hown, hTk, hB⟩ := hrel
      have hk := hTk.le
      rw [Array.length_toList] at hk
      have hk1 : k <= s.size + 1 := hk
      have hul := hTk.ulen
      have hll := hTk.llen
      by_cases hlt : k < s.size + 1
      · have hln : k < (s.data.toList ++ [32]).length := by rw [List.length_append, Array.length_toList]; exact hlt
        have hx := (show wr.cell? ⟨g, k, none⟩ = W1.cell? ⟨g, k, none⟩ from World.cell?_of_block (w := W1) (hB.block g hgl)).trans (HCS.out k hlt)
        obtain ⟨c, hc⟩ : ∃ c, (s.data.toList ++ [32])[k]? = some c := ⟨_, List.getElem?_eq_getElem hln⟩
        rw [List.getD_eq_getElem?_getD, hc, Option.getD_some] at hx
        have l1 : decide ((k : Int) < (s.size : Int) + 1) = true := by simp; omega
        have HT := hd_ hTk
        have HC := hd_ hc
        obtain ⟨z, hz⟩ : ∃ z, bs u = z := ⟨_, rfl⟩
        have hzs : z.size <= 61 := by rw [<- hz, bs_size]; omega
        have HZ := hd_ hz
        have hzr := hB.size
        rw [hz]
        clear hTk hc hln hk
        by_cases h32 : c = 32
        · subst h32
          have hx : wr.cell? ⟨g, k, none⟩ = some (.int .u8 32) := hx
          have hzl : z.toList = u := by rw [<- hz, ByteArray.toList_eq]; exact bs_list u
          by_cases hu : u = []
          · have e1 : z.toList.isEmpty = true := by rw [hzl, hu]; rfl
            have e2 : (!z.toList.isEmpty) = false := by rw [e1]; rfl
            subst hu
            have HM := hd_ (HT.out.space HC.out)
            clear hz hzl HT HC
            go_wp2_with fail
            go_roundw
            case rel => exact ⟨k + 1, L, [], by go_num, by rw [HZ.out], hown, HM.out, hB⟩
            case measure => simp [intOf] <;> omega
          · have e1 : z.toList.isEmpty = false := by rw [hzl]; cases u with | nil => exact absurd rfl hu | cons _ _ => rfl
            have e2 : (!z.toList.isEmpty) = true := by rw [e1]; rfl
            have HM := HT.out.word HC.out hu
            rw [hz] at HM
            have HM := hd_ HM
            have ho1 := World.ownsRow.alloc hown (.cells #[.string z] 9)
            clear hz hzl HT HC hu
            go_wp2_with (at_builtin; refine wpList_append_str rfl _ _ rfl W1.heap.size _ _ rfl ho1 wr.heap.size 1 z rfl (heap_alloc_new wr _) (by omega) (by simp; omega) ?_; intro v' w2 ho2 hg2)
            go_roundw
            case rel => exact ⟨k + 1, L ++ [z], [], by go_num, rfl, ho2, HM.out, (hB.alloc hB.size _).grown hg2 (by simp; omega) fun b hb => own_blockT ho1 b hb⟩
            case measure => simp [intOf] <;> omega
        · have hcn : c.toNat ≠ 32 := fun e => h32 (UInt8.toNat_inj.1 e)
          have n1 : ((c.toNat : Int) == 32) = false := by simp; omega
          have n2 : ((c.toNat : Int) != 32) = true := by simp; omega
          have n3 : ¬ (c.toNat : Int) = 32 := by omega
          have hcv1 := one_byte wr c (c.toNat : Int) rfl
          obtain ⟨y, hy⟩ : ∃ y, bs [c] = y := ⟨_, rfl⟩
          have hys : y.size <= 1 := by rw [<- hy, bs_size]; simp
          rw [hy] at hcv1
          have HY := hd_ hy
          have HM := hd_ (HT.out.plain HC.out h32)
          clear hy hz h32 HT HC hcn
          go_wp2_with fail
          go_roundw
          case rel => exact ⟨k + 1, L, u ++ [c], by go_num, by rw [<- HZ.out, <- HY.out, bs_append], World.ownsRow.alloc hown _, HM.out, hB.alloc hB.size _⟩
          case measure => simp [intOf] <;> omega
      · obtain rfl : k = s.size + 1 := by omega
        have hdone := TokAt.done (t := s.data.toList) (L := L) (u := u) (by rw [Array.length_toList]; exact hTk)
        have HP := hd_ (show ans = parseT (L.map (·.data.toList)) by rw [<- HA.out, hdone, parseL, if_neg (by rw [Array.length_toList]; exact HSZ.out)])
        have HL := hd_ (show ∀ y ∈ L, y.size <= 60 from fun y hy => by
          have h1 : y.data.toList ∈ toks s.data.toList := by rw [<- hdone]; exact List.mem_map.2 ⟨y, hy, rfl⟩
          have h2 := toksGo_size s.data.toList [] y.data.toList h1
          have h3 := HSZ.out
          simp at h2
          omega)
        obtain ⟨A3, c3, hv⟩ := own_form hown
        subst hv
        have hS : StrAt wr A3 L := Sl.of_own hown
        have hcap := own_cap hown
        have hBr := bLn hB1 hB
        have hO := hO1.below hB (Nat.lt_of_lt_of_le hO1.lt (Nat.le_refl _))
        clear hown hTk hdone hB HA hk hlt HCS hgl hB1 hO1 hk1 hul
        go_wp2_with fail
        refine (HW.out _ hBr).mono ?_
        rintro e w2 ⟨A5, c5, rfl, h5, hb5⟩
        rw [refWB_len]
        obtain ⟨b5, off5, hA5, hbl5, hc5⟩ := str_at h5 (by rw [refWB_len]; omega)
        subst hA5
        have HC5 := hd_ (show ∀ j, j < 14 -> w2.cell? ⟨b5, off5 + j, none⟩ = some (.string (bs (refW (j + 1)))) from fun j hj => by
          rw [hc5 j (by rw [refWB_len]; exact hj), <- refWB_get (K := j + 1) (by omega) (by omega)]; rfl)
        have hB2 := bLn hBr hb5
        have hO2 := hO.below hb5 hO.lt
        have hS2 : StrAt w2 A3 L := Sl.below hS hb5
        clear h5 hc5 hb5 hBr hO hS HW
        go_wp2_with fail
        go_loopw [49] (fun i wr => ∃ (j m : Nat), j <= 14 /\ i = .int .i64 j /\ wr = w2.drewN m /\ ∀ j', j' < j -> ¬ Hit L j') (fun i _ => 14 - (intOf i).toNat)
        case atStart => exact ⟨0, 0, by omega, rfl, rfl, fun j' hj' => by omega⟩
        case round =>
          obtain ⟨j, m, hj, rfl, rfl, hno⟩ := hrel
          have HNo := hd_ hno
          clear hno
          by_cases hlt : j < 14
          · have hltj := hlt
            have hcj : (w2.drewN m).cell? ⟨b5, off5 + j, none⟩ = some (.string (bs (refW (j + 1)))) := HC5.out j hlt
            obtain ⟨hL1, hL2⟩ := refW_len (K := j + 1) (by omega)
            have hix := refW_idx (K := j + 1) (by omega) (by omega)
            have hsl := refW_cut (K := j + 1) (by omega) (by omega)
            have hC3 := counts_le (j + 1) (by omega)
            obtain ⟨C, hC⟩ : ∃ C, countsL.getD (j + 1) 0 = C := ⟨_, rfl⟩
            obtain ⟨X, hX⟩ : ∃ X, bs (refW (j + 1)) = X := ⟨_, rfl⟩
            obtain ⟨Y, hY⟩ : ∃ Y, bs (wordsL.getD (j + 1) []) = Y := ⟨_, rfl⟩
            obtain ⟨l, hl⟩ : ∃ l, X.size = l := ⟨_, rfl⟩
            rw [hX] at hcj hL1 hL2 hix hsl
            rw [hY] at hsl
            rw [hl] at hL1 hL2 hix hsl
            rw [hC] at hC3 hix
            have HC := hd_ hC
            have HY := hd_ hY
            have hw1 : IntKind.i64.wrap ((l : Int) - 1) = (l : Int) - 1 := IntWalk.i64_in _ (by omega)
            have hw2 : IntKind.i64.wrap ((l : Int) - 2) = (l : Int) - 2 := IntWalk.i64_in _ (by omega)
            have hw3 : IntKind.i64.wrap (C : Int) = (C : Int) := IntWalk.i64_in _ (by omega)
            have hw4 : IntKind.i64.wrap (48 + (C : Int)) = 48 + (C : Int) := IntWalk.i64_in _ (by omega)
            have hsC : 48 + (C : Int) - 48 = (C : Int) := by omega
            have j0 : decide ((j : Int) < 14) = true := by simp; omega
            clear hC hX hY
            cases L with
            | nil =>
              simp only [List.length_nil]
              go_wp2_with fail
              go_quiet (fail)
              go_wp2_with fail
              go_roundw
              case rel => exact ⟨j + 1, m + nq, by omega, by go_num, by first | trivial | rw [World.drewN_drewN], fun j' hj' => fun ⟨x, r, e, _⟩ => by cases e⟩
              case measure => simp [intOf] <;> omega
            | cons x r =>
              obtain ⟨b3, off3, hA3, hbl3, hc3⟩ := str_at hS2 (by simp)
              subst hA3
              have hx : w2.cell? ⟨b3, off3, none⟩ = some (.string x) := hc3 0 (by simp)
              have hw0 : ((r.length : Int) + 1 == 0) = false := by simp; omega
              have hw5 : ¬ ((r.length : Int) + 1 = 0) := by omega
              have hr60 : r.length + 1 <= s.size + 1 := by simpa using hll
              by_cases he : x = Y
              · have HE := hd_ (show x.data.toList = wordsL.getD (j + 1) [] by rw [he, <- HY.out, bs_list])
                subst he
                by_cases hr : r.length = C
                · have n1 : ((r.length : Int) != (C : Int)) = false := by simp [hr]
                  have n2 : ((r.length : Int) == (C : Int)) = true := by simp [hr]
                  have n3 : ((r.length : Int) = (C : Int)) = True := by simp [hr]
                  have HR := hd_ hr
                  have hcap' : r.length + 1 <= c3 := by simpa using hcap
                  obtain ⟨A82, c82, hrs, hA82⟩ := rest_slice b3 off3 r.length c3 hcap' (by omega)
                  have HCS := hd_ hc3
                  have hr3 : r.length <= 3 := by omega
                  clear hr hc3
                  go_wp2_with fail
                  go_quiet (fail)
                  obtain ⟨wq, hq⟩ : ∃ wq, (w2.drewN m).drewN nq = wq := ⟨_, rfl⟩
                  have hBq : Below w.heap.size w wq := by rw [<- hq]; exact below_drawn (below_drawn hB2 m) nq
                  have hOq : OrdAt wq w.heap.size noO := by rw [<- hq]; exact hO2
                  have hSq : StrAt wq (some ⟨b3, off3, none⟩) (x :: r) := by rw [<- hq]; exact hS2
                  rw [hq]
                  clear hq hB2 hO2 hS2 hx hcj HC5 hix hsl hw1 hw2 hw3 hw4 hsC n1 n2 n3 hw0 hw5 HCS
                  have HCL := hd_ (show ∀ k, k < r.length -> wq.cell? ⟨b3, off3 + 1 + k, none⟩ = some (.string (r.getD k ByteArray.empty)) from fun k hk => by
                    obtain ⟨b4, off4, hA4, _, hc4⟩ := str_at hSq (by simp)
                    cases hA4
                    have := hc4 (k + 1) (by simpa using hk)
                    rw [List.getD_cons_succ] at this
                    rw [Nat.add_assoc, Nat.add_comm 1 k]; exact this)
                  have hb3q : b3 < wq.heap.size := by
                    obtain ⟨b4, off4, hA4, hlt4, _⟩ := str_at hSq (by simp)
                    cases hA4; exact hlt4
                  have HLY := hd_ (show ∀ k, k < r.length -> (r.getD k ByteArray.empty).size <= 60 from fun k hk => HL.out _ (List.mem_cons_of_mem _ (by rw [List.getD_eq_getElem?_getD, List.getElem?_eq_getElem hk]; exact List.getElem_mem hk)))
                  have HA3 := hd_ (show Ar3 (wq.alloc (.cells #[.int .i64 0, .int .i64 0, .int .i64 0] 80)) wq.heap.size [] from heap_alloc_new wq _)
                  clear hSq
                  go_wp2_with fail
                  try simp only [List.length_cons]
                  go_loopw [84] (fun i wr => ∃ (k : Nat) (ns : List Int), k <= r.length /\ i = .int .i64 k /\ ns.length = k /\ refNums ((r.map (·.data.toList)).take k) = some ns /\ Ar3 wr wq.heap.size ns /\ Below wq.heap.size wq wr) (fun i _ => r.length - (intOf i).toNat)
                  case atStart => exact ⟨0, [], Nat.zero_le _, rfl, rfl, rfl, HA3.out, (Below.refl _ _).alloc (Nat.le_refl _) _⟩
                  case round =>
                    obtain ⟨k, ns, hk, rfl, hnl, hnum, hA3, hB⟩ := hrel
                    have HNS := hd_ hnum
                    have HNL := hd_ hnl
                    clear hnum hnl
                    by_cases hlt : k < r.length
                    · have hx := (hB.cell (p := ⟨b3, off3 + 1 + k, none⟩) hb3q).trans (HCL.out k hlt)
                      have hA := hA82 (by omega)
                      subst hA
                      have hy60 := HLY.out k hlt
                      have hOr := hOq.below hB hOq.lt
                      have hBr := bLn hBq hB
                      obtain ⟨y, hy⟩ : ∃ y, r.getD k ByteArray.empty = y := ⟨_, rfl⟩
                      rw [hy] at hx hy60
                      have HYY := hd_ hy
                      clear hy
                      have HBAD := hd_ (fun (h : refNum y.data.toList = none) => show ans = none by
                        rw [HP.out, List.map_cons, hit_refT hltj HE.out (by rw [List.length_map, HR.out, HC.out])]
                        exact refT_none (refNums_none _ k (by simpa using hlt) (by
                          have e : (r.map (·.data.toList)).getD k [] = (r.getD k ByteArray.empty).data.toList := by simp [List.getD_eq_getElem?_getD, List.getElem?_eq_getElem hlt]
                          rw [e, HYY.out]; exact h)))
                      have htp := trimP_any y
                      obtain ⟨d, hd⟩ : ∃ d, bare y.data.toList = d := ⟨_, rfl⟩
                      have hdl : d.length <= 60 := by rw [<- hd]; have := bare_le y.data.toList; rw [Array.length_toList] at this; exact Nat.le_trans this hy60
                      rw [hd] at htp
                      have htd := fun w => trimD_any d w hdl
                      have hrn : d = [] \/ 10 < d.length \/ d.all isDig = false -> refNum y.data.toList = none := fun h => by unfold refNum; rw [hd, if_pos h]
                      have HRN := hd_ hrn
                      obtain ⟨z, hz⟩ : ∃ z, bs d = z := ⟨_, rfl⟩
                      obtain ⟨t, ht⟩ : ∃ t, bs (Lib.trimS d digits) = t := ⟨_, rfl⟩
                      have hzs : z.size = d.length := by rw [<- hz, bs_size]
                      have hzl : z.toList = d := by rw [<- hz, ByteArray.toList_eq, bs_list]
                      have htl : t.toList = Lib.trimS d digits := by rw [<- ht, ByteArray.toList_eq, bs_list]
                      rw [hz] at htp htd
                      rw [ht] at htd
                      have HTP := hd_ htp
                      have HTD := hd_ htd
                      have HD := hd_ hd
                      clear htp htd hd hrn ht
                      by_cases h1 : d = []
                      · have HX := hd_ (HBAD.out (HRN.out (.inl h1)))
                        have e1 : z.toList.isEmpty = true := by rw [hzl, h1]; rfl
                        have e2 : (!z.toList.isEmpty) = false := by rw [e1]; rfl
                        clear hz hzs hzl htl h1 hdl
                        go_wp2_with fail
                        refine (HTP.out _).mono ?_
                        rintro e w5 ⟨rfl, rfl⟩
                        go_wp2_with fail
                        refine (HN.out _).mono ?_
                        rintro e w3 ⟨rfl, hb3⟩
                        have hO3 := OrdAt.below hOr hb3 (OrdAt.lt hOr)
                        have hB3 := bLn hBr hb3
                        go_wp2_with (refine wSO (p := noO) (q := noO) rfl rfl (by first | rfl | simp [aE, aP]) (by first | rfl | simp [aE, aP]) hO3 ?_; intro w4 hO4 hb4)
                        refine bodyPost_ret (rOr rfl _ _ w.heap.size rfl hO4) rfl ?_
                        rw [HX.out]
                        exact ⟨rfl, hB3.trans hb4⟩
                      · have e1 : z.toList.isEmpty = false := by rw [hzl]; cases d with | nil => exact absurd rfl h1 | cons _ _ => rfl
                        have e2 : (!z.toList.isEmpty) = true := by rw [e1]; rfl
                        by_cases h2 : 10 < d.length
                        · have HX := hd_ (HBAD.out (HRN.out (.inr (.inl h2))))
                          have e3 : decide (10 < (z.size : Int)) = true := by simp; omega
                          clear hz hzs hzl htl h1 hdl h2
                          go_wp2_with fail
                          refine (HTP.out _).mono ?_
                          rintro e w5 ⟨rfl, rfl⟩
                          go_wp2_with fail
                          refine (HN.out _).mono ?_
                          rintro e w3 ⟨rfl, hb3⟩
                          have hO3 := OrdAt.below hOr hb3 (OrdAt.lt hOr)
                          have hB3 := bLn hBr hb3
                          go_wp2_with (refine wSO (p := noO) (q := noO) rfl rfl (by first | rfl | simp [aE, aP]) (by first | rfl | simp [aE, aP]) hO3 ?_; intro w4 hO4 hb4)
                          refine bodyPost_ret (rOr rfl _ _ w.heap.size rfl hO4) rfl ?_
                          rw [HX.out]
                          exact ⟨rfl, hB3.trans hb4⟩
                        · have e3 : decide (10 < (z.size : Int)) = false := by simp; omega
                          cases h3 : d.all isDig with
                          | false =>
                            have HX := hd_ (HBAD.out (HRN.out (.inr (.inr h3))))
                            have e4 : t.toList.isEmpty = false := by
                              rw [htl]
                              cases hq : Lib.trimS d digits with
                              | nil => rw [trim_digits, h3] at hq; cases hq
                              | cons _ _ => rfl
                            have e5 : (!t.toList.isEmpty) = true := by rw [e4]; rfl
                            clear hz hzs hzl htl h1 hdl h2 h3
                            go_wp2_with fail
                            refine (HTP.out _).mono ?_
                            rintro e w5 ⟨rfl, rfl⟩
                            go_wp2_with fail
                            refine (HTD.out _).mono ?_
                            rintro e w6 ⟨rfl, hb6⟩
                            have hO6 := hOr.below hb6 hOr.lt
                            have hB6 := bLn hBr hb6
                            go_wp2_with fail
                            refine (HN.out _).mono ?_
                            rintro e w3 ⟨rfl, hb3⟩
                            have hO3 := OrdAt.below hO6 hb3 (OrdAt.lt hO6)
                            have hB3 := bLn hB6 hb3
                            go_wp2_with (refine wSO (p := noO) (q := noO) rfl rfl (by first | rfl | simp [aE, aP]) (by first | rfl | simp [aE, aP]) hO3 ?_; intro w4 hO4 hb4)
                            refine bodyPost_ret (rOr rfl _ _ w.heap.size rfl hO4) rfl ?_
                            rw [HX.out]
                            exact ⟨rfl, hB3.trans hb4⟩
                          | true =>
                            have e4 : t.toList.isEmpty = true := by rw [htl, (trim_digits d).2 h3]; rfl
                            have e5 : (!t.toList.isEmpty) = false := by rw [e4]; rfl
                            have hk3 : k < 3 := by omega
                            have hdlen : d.length <= 10 := by omega
                            have hcz := fun W => conv_bytes W z
                            have hzd : z.data.toList = d := by rw [<- hz, bs_list]
                            have HDD := hd_ h3
                            have HZD := hd_ hzd
                            have HZS := hd_ hzs
                            rw [hzs] at hcz
                            clear hz hzl htl h2 h3 hzd
                            go_wp2_with fail
                            refine (HTP.out _).mono ?_
                            rintro e w5 ⟨rfl, rfl⟩
                            go_wp2_with fail
                            refine (HTD.out _).mono ?_
                            rintro e w6 ⟨rfl, hb6⟩
                            have hlt3 : wq.heap.size < w5.heap.size := (Array.getElem?_eq_some_iff.1 hA3).1
                            have hA6 : Ar3 w6 wq.heap.size ns := (hb6.block wq.heap.size hlt3).trans hA3
                            have hB6 := bLn hB hb6
                            have hlt6 : wq.heap.size < w6.heap.size := Nat.lt_of_lt_of_le hlt3 hb6.size
                            have hb7 := Lib.bytesWorld_below w6 5 z
                            have hA7 : Ar3 (Lib.bytesWorld w6 5 z) wq.heap.size ns := (hb7.block wq.heap.size hlt6).trans hA6
                            have hB7 := bLn hB6 hb7
                            have hc7 : ∀ m, m < d.length -> (Lib.bytesWorld w6 5 z).cell? ⟨w6.heap.size, m, none⟩ = some (.int .u8 (d.getD m 0).toNat) := fun m hm => by
                              rw [Lib.bytesWorld_cell w6 5 z m (by rw [HZS.out]; exact hm), HZD.out]
                            have hA70 : Ar3 (Lib.bytesWorld w6 5 z) wq.heap.size (ns ++ [0]) := by
                              unfold Ar3 at hA7 ⊢
                              rw [ar3_zero ns (by rw [HNL.out]; exact hk3)]; exact hA7
                            have hne : wq.heap.size ≠ w6.heap.size := by omega
                            go_wp2_with fail
                            obtain ⟨W7, hW7⟩ : ∃ W7, Lib.bytesWorld w6 5 z = W7 := ⟨_, rfl⟩
                            rw [hW7] at hA70 hB7 hc7
                            rw [hW7]
                            obtain ⟨gb, hgb⟩ : ∃ gb, w6.heap.size = gb := ⟨_, rfl⟩
                            rw [hgb] at hc7 hne
                            rw [hgb]
                            have HC7 := hd_ hc7
                            clear hW7 hgb hb7 hA7 hA6 hB6 hb6 hlt6 hc7 hcz
                            go_loopw [110] (fun x wr => ∃ n : Nat, n <= d.length /\ x = .int .i64 n /\ Ar3 wr wq.heap.size (ns ++ [(numVal 0 (d.take n) : Int)]) /\ Below wq.heap.size wq wr /\ (∀ m, m < d.length -> wr.cell? ⟨gb, m, none⟩ = some (.int .u8 (d.getD m 0).toNat))) (fun x _ => d.length - (intOf x).toNat)
                            case atStart => exact ⟨0, Nat.zero_le _, rfl, hA70, hB7, HC7.out⟩
                            case round =>
                              obtain ⟨n, hn, rfl, hAn, hBn, hcn⟩ := hrel
                              by_cases hnl : n < d.length
                              · have hxb := hcn n hnl
                                have hcd : isDig (d.getD n 0) = true := by
                                  rw [List.getD_eq_getElem?_getD, List.getElem?_eq_getElem hnl]
                                  exact List.all_eq_true.1 HDD.out _ (List.getElem_mem hnl)
                                have HTN := hd_ (show numVal 0 (d.take (n + 1)) = numVal 0 (d.take n) * 10 + ((d.getD n 0).toNat - 48) by
                                  rw [List.take_add_one, List.getElem?_eq_getElem hnl, Option.toList_some, numVal_snoc, List.getD_eq_getElem?_getD, List.getElem?_eq_getElem hnl]; rfl)
                                have hVb : numVal 0 (d.take n) < 10 ^ n := numVal_lt n (d.take n) (by rw [List.length_take]; omega) (by
                                  rw [List.all_eq_true]; intro c hc; exact List.all_eq_true.1 HDD.out c (List.mem_of_mem_take hc))
                                have hpow : 10 ^ n <= 10 ^ 10 := Nat.pow_le_pow_right (by omega) (by omega)
                                obtain ⟨c, hcc⟩ : ∃ c, (d.getD n 0).toNat = c := ⟨_, rfl⟩
                                simp only [isDig, Bool.and_eq_true, decide_eq_true_eq] at hcd
                                rw [hcc] at hxb hcd HTN
                                obtain ⟨V, hV⟩ : ∃ V, numVal 0 (d.take n) = V := ⟨_, rfl⟩
                                rw [hV] at hAn HTN hVb
                                have hck := hAn.at_ HNL.out hk3
                                have hfk : wr.frozen? ⟨wq.heap.size, k, none⟩ = false := hAn.frozen k
                                have g1 : IntKind.i64.wrap (10 * (V : Int)) = 10 * (V : Int) := IntWalk.i64_in _ (by omega)
                                have g2 : IntKind.i64.wrap (10 * (V : Int) + (c : Int)) = 10 * (V : Int) + (c : Int) := IntWalk.i64_in _ (by omega)
                                have g3 : IntKind.i64.wrap (10 * (V : Int) + (c : Int) - 48) = 10 * (V : Int) + (c : Int) - 48 := IntWalk.i64_in _ (by omega)
                                have g4 : IntKind.i64.wrap (c : Int) = (c : Int) := IntWalk.i64_in _ (by omega)
                                have k3 : (k : Int) < 3 := by omega
                                have HV2 := hd_ (show (((V * 10 + (c - 48) : Nat)) : Int) = 10 * (V : Int) + (c : Int) - 48 by omega)
                                have HAN := hd_ hAn
                                have HCN := hd_ hcn
                                clear hcc hV hVb hpow hAn hcn hcd
                                go_wp2_with fail
                                go_roundw
                                case rel => exact ⟨n + 1, by omega, by go_num, by rw [HTN.out, HV2.out]; exact HAN.out.over HNL.out hk3 _, hBn.setCell (p := ⟨wq.heap.size, k, none⟩) (Nat.le_refl _) _, fun m hm => (World.cell?_setCell_other _ _ _ _ (fun e => hne (by injection e))).trans (HCN.out m hm)⟩
                                case measure => simp [intOf] <;> omega
                              · obtain rfl : n = d.length := by omega
                                rw [List.take_length] at hAn
                                have hpow : numVal 0 d < 10 ^ d.length := numVal_lt d.length d rfl HDD.out
                                have hV10 : numVal 0 d < 10 ^ 10 := Nat.lt_of_lt_of_le hpow (Nat.pow_le_pow_right (by omega) hdlen)
                                obtain ⟨V, hV⟩ : ∃ V, numVal 0 d = V := ⟨_, rfl⟩
                                rw [hV] at hAn hV10
                                have hV11 : (V : Int) < 10000000000 := by omega
                                have HVV := hd_ hV
                                have hck := hAn.at_ HNL.out hk3
                                have hfk : wr.frozen? ⟨wq.heap.size, k, none⟩ = false := hAn.frozen k
                                have k3 : (k : Int) < 3 := by omega
                                have HNE := hd_ (show ¬ (d = [] \/ 10 < d.length \/ d.all isDig = false) from by
                                  rintro (h | h | h)
                                  · exact h1 h
                                  · omega
                                  · rw [HDD.out] at h; cases h)
                                have HAN := hd_ hAn
                                have HBN := hd_ hBn
                                clear hV hpow hV10 hAn hBn hcn hlt3 hB hA3 HTP HTD hOr hBr
                                by_cases hzy : d = y.data.toList
                                · obtain ⟨v, hv⟩ : ∃ v : Int, v = (V : Int) := ⟨_, rfl⟩
                                  have hs := hd_ (show signed y.data.toList = v by unfold signed; rw [HD.out, if_neg (by simpa using hzy), HVV.out, hv])
                                  have hzy2 : z = y := bytes_inj (by rw [HZD.out]; exact hzy)
                                  have hA9 : Ar3 wr wq.heap.size (ns ++ [v]) := by rw [hv]; exact HAN.out
                                  have hB9 := HBN.out
                                  rw [<- hv] at hck
                                  have v1 : v < 10000000000 := by omega
                                  have v0 : 0 <= v := by omega
                                  clear hv HAN HBN hzy HZD
                                  have hyz := hzy2.symm
                                  clear hzy2
                                  subst hyz
                                  go_wp2_with fail
                                  refine (decimal_any v (by omega) (by omega) _).mono ?_
                                  rintro e w8 ⟨rfl, hb8⟩
                                  have hA8 : Ar3 w8 wq.heap.size (ns ++ [v]) := (hb8.block wq.heap.size (Array.getElem?_eq_some_iff.1 hA9).1).trans hA9
                                  have hB8 := bLn hB9 hb8
                                  have hOr8 := hOq.below hB8 hOq.lt
                                  have hBr8 := bLn hBq hB8
                                  by_cases hit : Lib.itoa v = y.data.toList
                                  · have e8 : bs (Lib.itoa v) = y := bytes_inj (by rw [bs_list]; exact hit)
                                    rw [e8]
                                    have HNX := hd_ (show refNums ((r.map (·.data.toList)).take (k + 1)) = some (ns ++ [v]) from by
                                      rw [List.take_add_one, List.getElem?_map, List.getElem?_eq_getElem hlt, Option.map_some, Option.toList_some]
                                      refine refNums_snoc _ _ _ _ HNS.out ?_
                                      have e9 : r[k] = y := by rw [<- HYY.out, List.getD_eq_getElem?_getD, List.getElem?_eq_getElem hlt]; rfl
                                      rw [e9]
                                      unfold refNum
                                      rw [HD.out, if_neg HNE.out, hs.out, if_pos hit])
                                    have HA8 := hd_ hA8
                                    clear hA8 hit e8 hA9 hB9 hb8 hck
                                    go_wp2_with fail
                                    go_roundw
                                    case rel => exact ⟨k + 1, ns ++ [v], by omega, by go_num, by simp [HNL.out], HNX.out, HA8.out, hB8⟩
                                    case measure => simp [intOf] <;> omega
                                  · obtain ⟨t8, ht8⟩ : ∃ t8, bs (Lib.itoa v) = t8 := ⟨_, rfl⟩
                                    rw [ht8]
                                    have hne : ¬ t8.toList = y.toList := fun h => hit (by rw [<- bs_list (Lib.itoa v), ht8, <- ByteArray.toList_eq, h, ByteArray.toList_eq])
                                    have hn1 : (t8.toList == y.toList) = false := by simpa using hne
                                    have hn2 : (t8.toList != y.toList) = true := by simpa using hne
                                    have hn3 : decide (t8.toList = y.toList) = false := by simpa using hne
                                    have HX := hd_ (HBAD.out (by unfold refNum; rw [HD.out, if_neg HNE.out, hs.out, if_neg hit]))
                                    clear ht8 hne hit hA8 hA9 hB9 hb8 hck
                                    go_wp2_with fail
                                    refine (HN.out _).mono ?_
                                    rintro e w3 ⟨rfl, hb3⟩
                                    have hO3 := OrdAt.below hOr8 hb3 (OrdAt.lt hOr8)
                                    have hB3 := bLn hBr8 hb3
                                    go_wp2_with (refine wSO (p := noO) (q := noO) rfl rfl (by first | rfl | simp [aE, aP]) (by first | rfl | simp [aE, aP]) hO3 ?_; intro w4 hO4 hb4)
                                    refine bodyPost_ret (rOr rfl _ _ w.heap.size rfl hO4) rfl ?_
                                    rw [HX.out]
                                    exact ⟨rfl, hB3.trans hb4⟩
                                · obtain ⟨v, hv⟩ : ∃ v : Int, v = -(V : Int) := ⟨_, rfl⟩
                                  have hs := hd_ (show signed y.data.toList = v by unfold signed; rw [HD.out, if_pos hzy, HVV.out, hv])
                                  have hne : ¬ z.toList = y.toList := fun h => hzy (by rw [<- HZD.out, <- ByteArray.toList_eq, h, ByteArray.toList_eq])
                                  have hn1 : (z.toList == y.toList) = false := by simpa using hne
                                  have hn2 : (z.toList != y.toList) = true := by simpa using hne
                                  have hn3 : decide (z.toList = y.toList) = false := by simpa using hne
                                  have hA9 : Ar3 (wr.setCell ⟨wq.heap.size, k, none⟩ (.int .i64 v)) wq.heap.size (ns ++ [v]) := HAN.out.over HNL.out hk3 _
                                  have hB9 : Below wq.heap.size wq (wr.setCell ⟨wq.heap.size, k, none⟩ (.int .i64 v)) := HBN.out.setCell (p := ⟨wq.heap.size, k, none⟩) (Nat.le_refl _) _
                                  have g1 : IntKind.i64.wrap (-(V : Int)) = -(V : Int) := IntWalk.i64_in _ (by omega)
                                  have v1 : v < 10000000000 := by omega
                                  have v0 : -10000000000 < v := by omega
                                  have HV := hd_ hv
                                  rw [hv] at hA9 hB9
                                  clear hne hzy HAN HBN hv
                                  go_wp2_with fail
                                  rw [<- HV.out] at hA9 hB9 ⊢
                                  refine (decimal_any v (by omega) (by omega) _).mono ?_
                                  rintro e w8 ⟨rfl, hb8⟩
                                  have hA8 : Ar3 w8 wq.heap.size (ns ++ [v]) := (hb8.block wq.heap.size (Array.getElem?_eq_some_iff.1 hA9).1).trans hA9
                                  have hB8 := bLn hB9 hb8
                                  have hOr8 := hOq.below hB8 hOq.lt
                                  have hBr8 := bLn hBq hB8
                                  by_cases hit : Lib.itoa v = y.data.toList
                                  · have e8 : bs (Lib.itoa v) = y := bytes_inj (by rw [bs_list]; exact hit)
                                    rw [e8]
                                    have HNX := hd_ (show refNums ((r.map (·.data.toList)).take (k + 1)) = some (ns ++ [v]) from by
                                      rw [List.take_add_one, List.getElem?_map, List.getElem?_eq_getElem hlt, Option.map_some, Option.toList_some]
                                      refine refNums_snoc _ _ _ _ HNS.out ?_
                                      have e9 : r[k] = y := by rw [<- HYY.out, List.getD_eq_getElem?_getD, List.getElem?_eq_getElem hlt]; rfl
                                      rw [e9]
                                      unfold refNum
                                      rw [HD.out, if_neg HNE.out, hs.out, if_pos hit])
                                    have HA8 := hd_ hA8
                                    clear hA8 hit e8 hA9 hB9 hb8 hck
                                    go_wp2_with fail
                                    go_roundw
                                    case rel => exact ⟨k + 1, ns ++ [v], by omega, by go_num, by simp [HNL.out], HNX.out, HA8.out, hB8⟩
                                    case measure => simp [intOf] <;> omega
                                  · obtain ⟨t8, ht8⟩ : ∃ t8, bs (Lib.itoa v) = t8 := ⟨_, rfl⟩
                                    rw [ht8]
                                    have hne : ¬ t8.toList = y.toList := fun h => hit (by rw [<- bs_list (Lib.itoa v), ht8, <- ByteArray.toList_eq, h, ByteArray.toList_eq])
                                    have hn1 : (t8.toList == y.toList) = false := by simpa using hne
                                    have hn2 : (t8.toList != y.toList) = true := by simpa using hne
                                    have hn3 : decide (t8.toList = y.toList) = false := by simpa using hne
                                    have HX := hd_ (HBAD.out (by unfold refNum; rw [HD.out, if_neg HNE.out, hs.out, if_neg hit]))
                                    clear ht8 hne hit hA8 hA9 hB9 hb8 hck
                                    go_wp2_with fail
                                    refine (HN.out _).mono ?_
                                    rintro e w3 ⟨rfl, hb3⟩
                                    have hO3 := OrdAt.below hOr8 hb3 (OrdAt.lt hOr8)
                                    have hB3 := bLn hBr8 hb3
                                    go_wp2_with (refine wSO (p := noO) (q := noO) rfl rfl (by first | rfl | simp [aE, aP]) (by first | rfl | simp [aE, aP]) hO3 ?_; intro w4 hO4 hb4)
                                    refine bodyPost_ret (rOr rfl _ _ w.heap.size rfl hO4) rfl ?_
                                    rw [HX.out]
                                    exact ⟨rfl, hB3.trans hb4⟩
                    · obtain rfl : k = r.length := by omega
                      have hfull : refNums (r.map (·.data.toList)) = some ns := by
                        have := HNS.out
                        rwa [List.take_of_length_le (by rw [List.length_map]; exact Nat.le_refl _)] at this
                      obtain ⟨n0, hn0⟩ : ∃ n0, ns.getD 0 0 = n0 := ⟨_, rfl⟩
                      obtain ⟨n1, hn1⟩ : ∃ n1, ns.getD 1 0 = n1 := ⟨_, rfl⟩
                      obtain ⟨n2, hn2⟩ : ∃ n2, ns.getD 2 0 = n2 := ⟨_, rfl⟩
                      obtain ⟨qo, hqo⟩ : ∃ qo : Order, qo = ⟨(j : Int) + 1, n0, n1, n2⟩ := ⟨_, rfl⟩
                      have horder : orderOf (j + 1) ns = qo := by rw [hqo, <- hn0, <- hn1, <- hn2]; rfl
                      have hlim := refNums_lim _ _ hfull
                      have hwf : OrdWf qo := by
                        have h0 := hlim 0; have h1 := hlim 1; have h2 := hlim 2
                        rw [hn0] at h0; rw [hn1] at h1; rw [hn2] at h2
                        rw [hqo]
                        exact ⟨by dsimp only; omega, by dsimp only; omega, by dsimp only; omega, by dsimp only; omega⟩
                      have HANS := hd_ (show ans = if goodO qo = true then some qo else none by
                        rw [HP.out, List.map_cons, hit_refT hltj HE.out (by rw [List.length_map, HR.out, HC.out])]
                        unfold refT
                        rw [hfull]
                        dsimp only
                        rw [horder])
                      have c0 : wr.cell? ⟨wq.heap.size, 0, none⟩ = some (.int .i64 n0) := by rw [cell_of_row wr wq.heap.size 0 _ _ _ hA3, <- hn0]; rfl
                      have c1 : wr.cell? ⟨wq.heap.size, 1, none⟩ = some (.int .i64 n1) := by rw [cell_of_row wr wq.heap.size 1 _ _ _ hA3, <- hn1]; rfl
                      have c2 : wr.cell? ⟨wq.heap.size, 2, none⟩ = some (.int .i64 n2) := by rw [cell_of_row wr wq.heap.size 2 _ _ _ hA3, <- hn2]; rfl
                      have hOr := hOq.below hB hOq.lt
                      have hBr := bLn hBq hB
                      have hOr2 := hOr.alloc (.cells #[.int .i64 ((j : Int) + 1), .int .i64 n0, .int .i64 n1, .int .i64 n2] 41)
                      have hBr2 := hBr.alloc hBr.size (.cells #[.int .i64 ((j : Int) + 1), .int .i64 n0, .int .i64 n1, .int .i64 n2] 41)
                      have hQ2 := OrdAt.new wr qo
                      have hsw : w.heap.size < wr.heap.size := hOr.lt
                      have HI2 := HIs.out qo hwf
                      rw [hqo] at HI2 hQ2
                      simp only [ordA] at HI2 hQ2
                      have HI3 := hd_ HI2
                      have HQO := hd_ hqo
                      have jb : (j : Int) < 14 := by omega
                      clear hfull hn0 hn1 hn2 horder hlim hwf hA3 hOr hBr HI2 hqo hB
                      go_wp2_with fail
                      obtain ⟨W8, hW8⟩ : ∃ W8, W8 = wr.alloc (.cells #[.int .i64 ((j : Int) + 1), .int .i64 n0, .int .i64 n1, .int .i64 n2] 41) := ⟨_, rfl⟩
                      rw [<- hW8] at hOr2 hBr2 hQ2
                      rw [<- hW8]
                      clear hW8 c0 c1 c2
                      refine (HI3.out _ hBr2).mono ?_
                      rintro e w8 ⟨rfl, hb8⟩
                      have hO8 := hOr2.below hb8 hOr2.lt
                      have hB8 := bLn hBr2 hb8
                      have hQ8 : OrdAt w8 wr.heap.size ⟨(j : Int) + 1, n0, n1, n2⟩ := OrdAt.below hQ2 hb8 (OrdAt.lt (o := ⟨(j : Int) + 1, n0, n1, n2⟩) hQ2)
                      rw [<- HQO.out]
                      cases hgo : goodO qo with
                      | false =>
                        have HX := hd_ (show ans = none by rw [HANS.out, hgo]; rfl)
                        clear hOr2 hBr2 hQ2 hb8 hgo hQ8
                        go_wp2_with fail
                        refine (HN.out _).mono ?_
                        rintro e w3 ⟨rfl, hb3⟩
                        have hO3 := OrdAt.below hO8 hb3 (OrdAt.lt hO8)
                        have hB3 := bLn hB8 hb3
                        go_wp2_with (refine wSO (p := noO) (q := noO) rfl rfl (by first | rfl | simp [aE, aP]) (by first | rfl | simp [aE, aP]) hO3 ?_; intro w4 hO4 hb4)
                        refine bodyPost_ret (rOr rfl _ _ w.heap.size rfl hO4) rfl ?_
                        rw [HX.out]
                        exact ⟨rfl, hB3.trans hb4⟩
                      | true =>
                        have HX := hd_ (show ans = some qo by rw [HANS.out, hgo]; rfl)
                        rw [<- HQO.out] at hQ8
                        clear hOr2 hBr2 hQ2 hb8 hgo
                        go_wp2_with (first
                          | (refine wpList_load_ord rfl rfl ?hx hQ8 ?_; (case hx => first | rfl | (simp [aE, aP]; done)))
                          | (refine wSO (p := noO) (q := qo) rfl rfl (by first | rfl | simp [aE, aP]) (by first | rfl | simp [aE, aP]) hO8 ?_; intro w4 hO4 hb4))
                        refine bodyPost_ret (rOr rfl _ _ w.heap.size rfl hO4) rfl ?_
                        rw [HX.out]
                        exact ⟨rfl, hB8.trans hb4⟩
                · have n1 : ((r.length : Int) != (C : Int)) = true := by simp; omega
                  have n2 : ((r.length : Int) == (C : Int)) = false := by simp; omega
                  have HH := hd_ (show ¬ Hit (x :: r) j from fun ⟨x', r', e, e1, e2⟩ => by
                    injection e with e3 e4
                    subst e4
                    exact hr (by rw [e2, HC.out]))
                  clear hc3
                  go_wp2_with fail
                  go_quiet (fail)
                  go_wp2_with fail
                  go_roundw
                  case rel => exact ⟨j + 1, m + nq, by omega, by go_num, by first | trivial | rw [World.drewN_drewN], fun j' hj' => by
                    obtain h | rfl : j' < j \/ j' = j := by omega
                    · exact HNo.out j' h
                    · exact HH.out⟩
                  case measure => simp [intOf] <;> omega
              · have hne : ¬ x.toList = Y.toList := fun h => he (bytes_inj (by rw [<- ByteArray.toList_eq, <- ByteArray.toList_eq]; exact h))
                have HH := hd_ (show ¬ Hit (x :: r) j from fun ⟨x', r', e, e1, e2⟩ => by
                  injection e with e3 e4
                  subst e3
                  exact he (bytes_inj (by rw [e1, <- HY.out, bs_list])))
                have hn1 : (x.toList == Y.toList) = false := by simpa using hne
                have hn2 : (x.toList != Y.toList) = true := by simpa using hne
                have hn3 : decide (x.toList = Y.toList) = false := by simpa using hne
                clear hc3
                go_wp2_with fail
                go_quiet (fail)
                go_wp2_with fail
                go_roundw
                case rel => exact ⟨j + 1, m + nq, by omega, by go_num, by first | trivial | rw [World.drewN_drewN], fun j' hj' => by
                  obtain h | rfl : j' < j \/ j' = j := by omega
                  · exact HNo.out j' h
                  · exact HH.out⟩
                case measure => simp [intOf] <;> omega
          · obtain rfl : j = 14 := by omega
            have HF := hd_ (no_hit HNo.out)
            go_wp2_with fail
            refine (HN.out _).mono ?_
            rintro e w3 ⟨rfl, hb3⟩
            have hO3 := OrdAt.below (w := w2.drewN m) hO2 hb3 (OrdAt.lt (w := w2.drewN m) hO2)
            have hB3 := bLn (below_drawn hB2 m) hb3
            go_wp2_with (refine wSO (p := noO) (q := noO) rfl rfl (by first | rfl | simp [aE, aP]) (by first | rfl | simp [aE, aP]) hO3 ?_; intro w4 hO4 hb4)
            refine bodyPost_ret (rOr rfl _ _ w.heap.size rfl hO4) rfl ?_
            rw [HP.out, HF.out]
            exact ⟨rfl, hB3.trans hb4⟩
end Go.Proofs.YtifmdkcpbajdcabGreatDoor
