/- Walks: lines told to a new desk: Run. -/
import Derived.Test.YtifmdkcpbajdcabGreatDoorDeskAl
import Derived.Maps.AppendAt
set_option linter.unusedVariables false
set_option linter.unusedSimpArgs false
namespace Go.Proofs.YtifmdkcpbajdcabGreatDoor
open Go.RowKit Go.Proofs Plain
open Go.Lib renaming hid -> hd_
def runL : Desk -> List Txt -> List (Int × Int)
  | _, [] => []
  | d, s :: l => (tellD d s).2 :: runL (tellD d s).1 l
def repCells : List (Int × Int) -> List Value
  | [] => []
  | r :: l => .int .i64 r.1 :: .int .i64 r.2 :: repCells l
theorem repCells_app (l m : List (Int × Int)) : repCells (l ++ m) = repCells l ++ repCells m := by
  induction l with
  | nil => rfl
  | cons r l ih => simp only [List.cons_append, repCells, ih]
theorem run_snoc (l : List Txt) (s : Txt) : ∀ d, runL d (l ++ [s]) = runL d l ++ [(tellD (playL d l) s).2] := by
  induction l with
  | nil => intro d; rfl
  | cons t l ih => intro d; simp only [List.cons_append, runL, playL, ih]
theorem run_len (l : List Txt) : ∀ d, (runL d l).length = l.length := by
  induction l with
  | nil => intro d; rfl
  | cons t l ih => intro d; simp only [runL, List.length_cons, ih]
def OwnR (w : World) (base : Nat) (v : Value) (l : List (Int × Int)) : Prop := w.ownsRow base 29 2 v l.length (repCells l)
theorem reply_info : (Tryz.prog.info? 29).map (fun i => (i.zero, i.size, i.bytes)) = some (some (.agg #[.int .i64 0, .int .i64 0]), 2, 16) := by kernel_rfl
theorem wpList_append_reply {ops : Array Oper} {rest : List Oper} {o : Oper} {a : Act} {w : World} {Q : Exit -> Act -> World -> Prop} (hgd : o.guard = none) (s x : Operand) (ho : o.op = .call { callee := .builtin .append, args := #[s, x], argTypes := #[48, 48] })
    (base : Nat) (v : Value) (l : List (Int × Int)) (hs : a.eval s = v) (hown : OwnR w base v l) (g c : Nat) (t y : Int) (hx : a.eval x = .slice (some ⟨g, 0, none⟩) 1 c)
    (hg : w.heap[g]? = some (.cells #[.int .i64 t, .int .i64 y] 29 (0, 0))) (hl : l.length <= 100000) (hb : base <= w.heap.size)
    (h : ∀ v' w', OwnR w' base v' (l ++ [(t, y)]) -> w.grownBy w' v.ownBlock -> (v'.ownBlock = v.ownBlock \/ v'.ownBlock = some w.heap.size) -> wpList Tryz.prog ops Q rest (a.put o.dst v') w') : wpList Tryz.prog ops Q (o :: rest) a w := by
  obtain ⟨i0, hi0, hz0, hzs, hzb⟩ := info_parts reply_info
  refine wpList_append_own_at w hgd s x 48 ho base 29 i0 _ 2 16 Tryz.underlying48 hi0 hz0 hzs hzb rfl (by decide) v l.length _ hs hown ⟨g, 0, none⟩ 1 c [.int .i64 t, .int .i64 y] hx rfl (news_row hg (by simp [Value.oneCell'])) (by simp [Value.oneCell']) (by unfold maxLen; omega) (by omega) hb fun v' w' ho' hg' _ hk => ?_
  exact h v' w' (by unfold OwnR; rw [repCells_app, List.length_append]; exact ho') hg' hk
theorem DeskAt.grew {w w' : World} {G G' M : Nat -> Prop} {g : Nat} {d : Desk} (h : DeskAt w G g d) (hk : Kp M w w') (hM : ∀ b, M b -> G b) (hg : ¬ M g) (hG : ∀ b, G b -> G' b) (hk2 : ∀ b, G' b -> G b \/ w.heap.size <= b) (ha : ∀ b, G' b -> b < w'.heap.size) : DeskAt w' G' g d := by
  have hs : ∀ b, b < w.heap.size -> ¬ G' b -> w'.heap[b]? = w.heap[b]? := fun b hb hn => hk.block b hb fun hm => hn (hG b (hM b hm))
  obtain ⟨A, c, B, cB, K, v2, v3, v4, v5, v6, v7, v8, v9, v10, v11, v12, v13, v14, v15, h1, hd, h3, h4, h5⟩ := h.at_
  exact ⟨hG g h.own, ha, A, c, B, cB, K, v2, v3, v4, v5, v6, v7, v8, v9, v10, v11, v12, v13, v14, v15, h1,
    (hk.block g h.lt hg).trans hd, (h3.more hk2).same hs, (h4.more hk2).same hs, (h5.more hk2).same hs⟩
def RetRun (l : List Txt) (w : World) (e : Ending) (w' : World) : Prop :=
  ∃ A c, e = .returned (.tuple #[.slice A l.length c, .int .i64 0]) /\ Sl w' 2 A l.length (repCells (runL Desk.new l)) /\ Below w.heap.size w w'
structure RunAt (w : World) (g base : Nat) (d : Desk) (v : Value) (rs : List (Int × Int)) (W : World) : Prop where
  below : Below w.heap.size w W
  low : w.heap.size <= g
  lt : g < base
  size : base <= W.heap.size
  own : OwnR W base v rs
  desk : ∃ G : Nat -> Prop, DeskAt W G g d /\ ∀ x, v.ownBlock = some x -> G x
theorem RunAt.line {w W : World} {g base Bt : Nat} {d : Desk} {v : Value} {rs : List (Int × Int)} (h : RunAt w g base d v rs W) (hL : LineAt Bt w) : LineAt Bt W := hL.below (h.below.mono hL.size)
theorem own_tn {w w' : World} {base size n g : Nat} {T : TypeId} {v : Value} {xs : List Value} (h : w.ownsRow base T size v n xs) (ht : Tn g w w') (hg : g < base) : w'.ownsRow base T size v n xs := by
  refine ⟨h.1, ?_⟩
  rcases h.2 with hn | ⟨b, cap, cur, hv, hb, hh, rest⟩
  · exact .inl hn
  · exact .inr ⟨b, cap, cur, hv, hb, (ht.block b (Array.getElem?_eq_some_iff.1 hh).1 (fun e => by injection e with e; omega)).trans hh, rest⟩
theorem own_in {w : World} {base size n x : Nat} {T : TypeId} {v : Value} {xs : List Value} (h : w.ownsRow base T size v n xs) (hx : v.ownBlock = some x) : x < w.heap.size /\ base <= x := by
  rcases h.2 with ⟨hv, _⟩ | ⟨b, cap, cur, hv, hb, hh, rest⟩
  · rw [hv] at hx; cases hx
  · rw [hv] at hx
    simp only [Value.ownBlock, Option.some.injEq] at hx
    subst hx
    exact ⟨(Array.getElem?_eq_some_iff.1 hh).1, hb⟩
theorem RunAt.more {w W W2 W3 : World} {g base : Nat} {d d' : Desk} {v v' : Value} {rs : List (Int × Int)} {r : Int × Int} (o : Obj) {G : Nat -> Prop} (h : RunAt w g base d v rs W) (hG : ∀ x, v.ownBlock = some x -> G x) (hd : DeskAt W2 G g d') (ht : Tn g W W2)
    (ho : OwnR W3 base v' (rs ++ [r])) (hg : (W2.alloc o).grownBy W3 v.ownBlock) (hk : v'.ownBlock = v.ownBlock \/ v'.ownBlock = some (W2.alloc o).heap.size) : RunAt w g base d' v' (rs ++ [r]) W3 := by
  have hb2 : Below W2.heap.size W2 (W2.alloc o) := (Below.refl _ _).alloc (Nat.le_refl _) _
  have hne : ∀ x, v.ownBlock = some x -> base <= x := fun x hx => (own_in h.own hx).2
  have hsz : W2.heap.size <= (W2.alloc o).heap.size := hb2.size
  have hgt := h.lt
  have hlow := h.low
  have hs := h.size
  have hkp : Kp (fun b => v.ownBlock = some b) (W2.alloc o) W3 := ⟨hg.os, hg.tape, hg.output, hg.size, fun k hk hn => hg.block k hk (fun e => hn e.symm)⟩
  have hb1 : Below w.heap.size w W2 := h.below.trans (ht.below h.low h.below.size)
  refine ⟨((hb1.trans (hb2.mono hb1.size))).trans (hkp.below (fun b hb => by have := hne b hb; omega) (Nat.le_trans hb1.size hsz)), h.low, h.lt, Nat.le_trans (Nat.le_trans hs (Nat.le_trans ht.size hsz)) hg.size, ho, fun b => G b \/ v'.ownBlock = some b, ?_, fun x hx => .inr hx⟩
  refine (hd.below hb2).grew hkp (fun b hb => hG b hb) (fun hb => by have := hne g hb; omega) (fun b hb => .inl hb) (fun b hb => ?_) (fun b hb => ?_)
  · rcases hb with hb | hb
    · exact .inl hb
    · rcases hk with hk | hk
      · rw [hk] at hb; exact .inl (hG b hb)
      · rw [hk] at hb; injection hb with hb; exact .inr (by omega)
  · rcases hb with hb | hb
    · exact Nat.lt_of_lt_of_le (hd.all b hb) (Nat.le_trans hsz hg.size)
    · exact (own_in ho hb).1
set_option maxRecDepth 100000 in
set_option maxHeartbeats 16000000 in
theorem run_any (Bt : Nat) (l : List ByteArray) (A : Option Addr) (c : Nat) (w : World) (hL : LineAt Bt w) (hsl : StrAt w A l) (hlen : l.length <= 250) (hsz : ∀ s ∈ l, s.size <= maxLen) :
    Calls Tryz.prog 18 #[.slice A l.length c] w (RetRun (l.map (·.data.toList)) w) := by
  have HL := hd_ hL
  have HSL := hd_ hsl
  have HSZ := hd_ hsz
  have t0 : decide ((l.length : Int) > 250) = false := by rw [decide_eq_false_iff_not]; omega
  have t1 : decide ((250 : Int) < (l.length : Int)) = false := by rw [decide_eq_false_iff_not]; omega
  clear hL hsl hsz
  go_enter Tryz.func18, Tryz.ntmps18
  go_wp2_with fail
  refine (newD_any _).mono ?_
  rintro e w2 ⟨g, rfl, hg1, hb2, hg2, hD⟩
  have HR := hd_ (show RunAt w g w2.heap.size Desk.new (.slice none 0 0) [] w2 from ⟨hb2, hg1, hg2, Nat.le_refl _, ⟨rfl, .inl ⟨rfl, rfl⟩⟩, fun b => b = g, hD (fun b => b = g) rfl (fun b hb => by rw [hb]; exact hg2), fun x hx => by cases hx⟩)
  obtain ⟨base, hbase⟩ : ∃ base, w2.heap.size = base := ⟨_, rfl⟩
  rw [hbase] at HR
  clear hD hb2 hg1 hg2 hbase
  go_wp2_with fail
  go_loopw [5, 14] (fun x5 x14 wr => ∃ k : Nat, ∃ A5 c5, k <= l.length /\ x14 = .int .i64 k /\ x5 = .slice A5 k c5 /\ RunAt w g base (playL Desk.new ((l.map (·.data.toList)).take k)) (.slice A5 k c5) (runL Desk.new ((l.map (·.data.toList)).take k)) wr) (fun _ x14 _ => l.length - (intOf x14).toNat)
  case atStart => exact ⟨0, none, 0, Nat.zero_le _, rfl, rfl, HR.out⟩
  case round =>
    obtain ⟨k, A5, c5, hk, rfl, rfl, hS⟩ := hrel
    clear HR
    by_cases hlt : k < l.length
    · obtain ⟨bl, offl, hA, hbl, hcl⟩ := str_at (Sl.below HSL.out hS.below) (by omega)
      subst hA
      have y0 := hcl k hlt
      have hsk : l[k]? = some (l.getD k ByteArray.empty) := by rw [List.getD_eq_getElem?_getD, List.getElem?_eq_getElem hlt]; rfl
      obtain ⟨s, hs⟩ : ∃ s, l.getD k ByteArray.empty = s := ⟨_, rfl⟩
      rw [hs] at y0 hsk
      have hs2 : (l.map (·.data.toList))[k]? = some s.data.toList := by rw [List.getElem?_map, hsk]; rfl
      have hpl := play_one _ k _ Desk.new hs2
      have hrl : runL Desk.new ((l.map (·.data.toList)).take (k + 1)) = runL Desk.new ((l.map (·.data.toList)).take k) ++ [(tellD (playL Desk.new ((l.map (·.data.toList)).take k)) s.data.toList).2] := by
        rw [<- run_snoc, List.take_add_one, hs2]; rfl
      have hle : (runL Desk.new ((l.map (·.data.toList)).take k)).length = k := by rw [run_len, List.length_take, List.length_map]; omega
      have hok := play_ok ((l.map (·.data.toList)).take k) new_ok
      have hac := play_le ((l.map (·.data.toList)).take k) Desk.new
      rw [List.length_take] at hac
      have h0 : Desk.new.acts = 0 := rfl
      have hac2 : (playL Desk.new ((l.map (·.data.toList)).take k)).acts <= 1000 := by omega
      obtain ⟨d, hd⟩ : ∃ d, playL Desk.new ((l.map (·.data.toList)).take k) = d := ⟨_, rfl⟩
      obtain ⟨rs, hrs⟩ : ∃ rs, runL Desk.new ((l.map (·.data.toList)).take k) = rs := ⟨_, rfl⟩
      rw [hd] at hpl hrl hok hac2 hS
      rw [hrs] at hrl hle hS
      clear hac h0 hd hrs hs2 hcl hs
      obtain ⟨G, hDG, hGv⟩ := hS.desk
      have HT := hd_ (tellD_any Bt G g d s wr hDG hok (hS.line HL.out) (Nat.le_trans HL.out.size hS.low) (HSZ.out s (List.mem_of_getElem? hsk)) hac2)
      obtain ⟨CC, hCC⟩ : ∃ CC, (tellD d s.data.toList).2.1 = CC := ⟨_, rfl⟩
      obtain ⟨NN, hNN⟩ : ∃ NN, (tellD d s.data.toList).2.2 = NN := ⟨_, rfl⟩
      obtain ⟨dn, hdn⟩ : ∃ dn, (tellD d s.data.toList).1 = dn := ⟨_, rfl⟩
      rw [show (tellD d s.data.toList).2 = (CC, NN) by rw [<- hCC, <- hNN]] at hrl
      rw [hCC, hNN, hdn] at HT
      rw [hdn] at hpl
      have HPL := hd_ hpl
      have HRL := hd_ hrl
      have HLE := hd_ hle
      have HS := hd_ hS
      have HGV := hd_ hGv
      clear hpl hrl hle hS hGv hDG hok hac2 hsk hCC hNN hdn
      go_wp2_with fail
      refine HT.out.mono ?_
      rintro e1 w3 ⟨rfl, hd3, ht3⟩
      have HD3 := hd_ hd3
      have HT3 := hd_ ht3
      have hown : OwnR (w3.alloc (.cells #[.int .i64 CC, .int .i64 NN] 29)) base (.slice A5 k c5) rs := World.ownsRow.alloc (own_tn HS.out.own ht3 HS.out.lt) _
      have hbs : base <= (w3.alloc (.cells #[.int .i64 CC, .int .i64 NN] 29)).heap.size := Nat.le_trans HS.out.size (Nat.le_trans ht3.size (by simp))
      have hl5 : rs.length <= 100000 := by rw [HLE.out]; omega
      clear hd3 ht3 HT y0
      go_wp2_with (at_builtin; refine wpList_append_reply rfl _ _ rfl base _ rs (by first | rfl | simp [Act.eval, Act.put]) hown w3.heap.size _ CC NN (by first | rfl | simp [Act.eval, Act.put]) (heap_alloc_new _ _) hl5 hbs ?_; intro v4 w4 ho4 hg4 hk4)
      obtain ⟨A6, c6, hv⟩ := own_form ho4
      rw [show (rs ++ [(CC, NN)]).length = k + 1 by rw [List.length_append, HLE.out]; rfl] at hv
      subst hv
      have HN := hd_ (RunAt.more _ HS.out HGV.out HD3.out HT3.out ho4 hg4 hk4)
      clear ho4 hg4 hk4 hown hbs hl5 HS HD3 HT3
      go_wp2_with fail
      go_roundw
      case rel => exact ⟨k + 1, A6, c6, by omega, by go_num, rfl, by rw [HPL.out, HRL.out]; exact HN.out⟩
      case measure => simp [intOf] <;> omega
    · obtain rfl : k = l.length := by omega
      have htk : (l.map (·.data.toList)).take l.length = l.map (·.data.toList) := List.take_of_length_le (by rw [List.length_map]; exact Nat.le_refl _)
      rw [htk] at hS
      have HS := hd_ hS
      clear hS htk
      go_wp2_with fail
      go_ret2
      refine ⟨A5, c5, by first | (rw [List.length_map]; done) | (rw [List.length_map]; rfl) | simp, ?_, HS.out.below⟩
      have h := HS.out.own
      unfold OwnR at h
      rw [run_len, List.length_map] at h
      rw [List.length_map]
      exact Sl.of_own h
end Go.Proofs.YtifmdkcpbajdcabGreatDoor
