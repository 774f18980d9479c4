/- Walks: whatever is written over what a desk has told, it answers as one to which nothing is done: the look, and the law. -/
import Derived.Test.YtifmdkcpbajdcabGreatDoorPlayMem
import Derived.Test.YtifmdkcpbajdcabGreatDoorTopSame
set_option linter.unusedVariables false
set_option linter.unusedSimpArgs false
namespace Go.Proofs.YtifmdkcpbajdcabGreatDoor
open Go.RowKit Go.Proofs Plain

theorem eq_replyM (a b : Int) (w : World) : (Op.equalIn 10000 29 (.agg #[.int .i64 a, .int .i64 b]) (.agg #[.int .i64 a, .int .i64 b])).run Tryz.prog w = .ok true w := by simp [go_sem]
attribute [local go_sem] eq_replyM
theorem zero6_one : (#[.int .i64 0, .int .i64 0, .int .i64 0, .int .i64 0, .int .i64 0, .int .i64 0] : Array Value).all (·.oneCell') = true := by simp [Value.oneCell']
theorem ship_szM : (Tryz.prog.info? 61).map (·.size) = some 6 := by kernel_rfl
theorem port_twoM (p : Port) (A : Option Addr) (c : Nat) : ∃ v2 v3 v4 v5 v6 v7 v8 v9 v10 v11 v12 v13 v14 v15 : Value, portA p A c = #[.int .i64 p.now, .slice A p.ships.length c, v2, v3, v4, v5, v6, v7, v8, v9, v10, v11, v12, v13, v14, v15] ∧
    (#[.int .i64 p.now, .slice A p.ships.length c, v2, v3, v4, v5, v6, v7, v8, v9, v10, v11, v12, v13, v14, v15] : Array Value).all (·.oneCell') = true := ⟨_, _, _, _, _, _, _, _, _, _, _, _, _, _, rfl, portA_one p A c⟩

/-- A slice of the call's own, that may be written over: n parts of so many cells. -/
def MyRow (w : World) (base size : Nat) (A : Option Addr) (n : Nat) : Prop :=
  0 < n → ∃ b cap cur T, A = some ⟨b, 0, none⟩ ∧ base ≤ b ∧ w.heap[b]? = some (.cells cur T (0, 0)) ∧ n ≤ cap ∧ cur.size = cap * size
theorem MyRow.of_own {w : World} {base size n c : Nat} {E : TypeId} {A : Option Addr} {xs : List Value} (h : w.ownsRow base E size (.slice A n c) n xs) : MyRow w base size A n := fun hn => by
  obtain ⟨_, h | ⟨g, cap, cur, h1, h2, h3, h4, _, h5, _⟩⟩ := h
  · omega
  · injection h1 with e1 e2 e3
    exact ⟨g, cap, cur, E, e1, h2, h3, h4, h5⟩
theorem MyRow.below {w w' : World} {base size n N : Nat} {A : Option Addr} (h : MyRow w base size A n) (hb : Below N w w') (hN : w.heap.size ≤ N) : MyRow w' base size A n := fun hn => by
  obtain ⟨b, cap, cur, T, h1, h2, h3, h4, h5⟩ := h hn
  exact ⟨b, cap, cur, T, h1, h2, (hb.block b (Nat.lt_of_lt_of_le (Array.getElem?_eq_some_iff.1 h3).1 hN)).trans h3, h4, h5⟩
theorem setL_size : ∀ (vs : List Value) (cs : Array Value) (o : Nat), (setL cs o vs).size = cs.size
  | [], _, _ => rfl
  | v :: r, cs, o => by
    show (setL (cs.setIfInBounds o v) (o + 1) r).size = _
    rw [setL_size r, Array.size_setIfInBounds]
theorem my_there {w : World} {b cap size k : Nat} {cur : Array Value} {T : TypeId} (h : w.heap[b]? = some (.cells cur T (0, 0))) (hs : cur.size = cap * size) (hk : k < cap) : w.there b (k * size) size := fun j hj => by
  have hlt : k * size + j < cur.size := by
    rw [hs]
    calc k * size + j < k * size + size := by omega
      _ = (k + 1) * size := by rw [Nat.add_mul]; omega
      _ ≤ cap * size := Nat.mul_le_mul_right _ (by omega)
  refine ⟨?_, by simp [World.frozen?, h]⟩
  rw [cell_of_row w b (k * size + j) _ _ _ h, Array.getElem?_eq_getElem hlt]; rfl

theorem wpList_store_zero {ops : Array Oper} {rest : List Oper} {o : Oper} {a : Act} {w : World} {Q : Exit → Act → World → Prop} {x y : Operand} {b k cap : Nat} {cur : Array Value} {T : TypeId} (hg : o.guard = none) (ho : o.op = .store 61 x y)
    (hx : a.eval x = .pointer (some ⟨b, k * 6, none⟩)) (hy : a.eval y = .agg #[.int .i64 0, .int .i64 0, .int .i64 0, .int .i64 0, .int .i64 0, .int .i64 0]) (hr : w.heap[b]? = some (.cells cur T (0, 0))) (hs : cur.size = cap * 6) (hk : k < cap)
    (h : ∀ w' cur', w'.heap[b]? = some (.cells cur' T (0, 0)) → cur'.size = cap * 6 → OneRow b w w' → wpList Tryz.prog ops Q rest (a.put o.dst undef) w') : wpList Tryz.prog ops Q (o :: rest) a w := by
  obtain ⟨g1, g2⟩ := dkcells_set [.int .i64 0, .int .i64 0, .int .i64 0, .int .i64 0, .int .i64 0, .int .i64 0] (k * 6) w _ hr
  exact wpList_store_mid hg _ x y ho b (k * 6) _ hx hy (my_there hr hs hk) ship_szM zero6_one (h _ _ g2 (by rw [setL_size]; exact hs) g1)

/-- What the look leans on: what lies below base stays. -/
structure MemAt (w : World) (base : Nat) (A5 A6 : Option Addr) (kp n m : Nat) (vsP : Array Value) (wr : World) : Prop where
  below : Below base w wr
  boxP : BoxAt wr kp vsP
  kpl : base ≤ kp
  row5 : MyRow wr base 6 A5 n
  row6 : MyRow wr base 1 A6 m
  apart : ∀ b x, A5 = some ⟨b, 0, none⟩ → A6 = some x → x.block ≠ b
  box5 : ∀ b, A5 = some ⟨b, 0, none⟩ → b ≠ kp

set_option maxRecDepth 100000 in
set_option maxHeartbeats 32000000 in
theorem memLook_any (Bt : Nat) (G : Nat → Prop) (g h kc : Nat) (d0 : Desk) (s : ByteArray) (w : World) (T : TypeId) (hD : DeskAt w G g (tellD d0 s.data.toList).1) (hE : DeskAt w G h d0) (hok : DOk d0) (hac : d0.acts ≤ 1000) (hL : LineAt Bt w) (hBh : Bt ≤ h) (hsz : s.size ≤ maxLen)
    (hc : w.heap[kc]? = some (.cells #[.pointer (some ⟨h, 0, none⟩)] T (0, 0))) (hne : g ≠ h ∧ h ≠ kc) :
    Calls Tryz.prog 24 #[.pointer (some ⟨g, 0, none⟩), .string s, .agg #[.int .i64 (tellD d0 s.data.toList).2.1, .int .i64 (tellD d0 s.data.toList).2.2], .pointer (some ⟨kc, 0, none⟩)] w
      fun e w' => e = .returned (.bool true) ∧ Tn h w w' ∧ DeskAt w' G h (tellD d0 s.data.toList).1 := by
  have hok1 := (tell_ok s.data.toList hok).1
  have HT := Lib.hid (fun (W : World) (t : DeskAt W G h d0) (l : LineAt Bt W) => tellD_any Bt G h d0 s W t hok l hBh hsz hac)
  obtain ⟨CC, hCC⟩ : ∃ CC, (tellD d0 s.data.toList).2.1 = CC := ⟨_, rfl⟩
  obtain ⟨NN, hNN⟩ : ∃ NN, (tellD d0 s.data.toList).2.2 = NN := ⟨_, rfl⟩
  obtain ⟨d, hd⟩ : ∃ d, (tellD d0 s.data.toList).1 = d := ⟨_, rfl⟩
  rw [hCC, hNN, hd] at HT
  rw [hd] at hok1 hD ⊢
  rw [hCC, hNN]
  have HG := Lib.hid hok1.now.good
  have HPO := Lib.hid (fun (W : World) (t : DeskAt W G g d) => portD_any G g d W t HG.out)
  have HPL := Lib.hid (fun (W : World) (t : DeskAt W G g d) => planD_any G g d W t HG.out)
  clear hok hok1 hCC hNN hd
  have HGO := Lib.hid (And.intro hD.own hE.own)
  have hb0 : Below w.heap.size w (w.alloc (.cells #[.int .i64 CC, .int .i64 NN] 29)) := (Below.refl _ _).alloc (Nat.le_refl _) _
  have hR0 := RpAt.new w CC NN
  have hD0 := hD.below hb0
  have hE0 := hE.below hb0
  have hL0 := hL.below (hb0.mono hL.size)
  have hkc : kc < w.heap.size := (Array.getElem?_eq_some_iff.1 hc).1
  have hc0 := (hb0.block kc hkc).trans hc
  have hglt := hD.lt
  obtain ⟨hn1, hn2⟩ := hne
  obtain ⟨w0, hw0⟩ : ∃ w0, w0 = w.alloc (.cells #[.int .i64 CC, .int .i64 NN] 29) := ⟨_, rfl⟩
  obtain ⟨kr, hkr⟩ : ∃ kr, w.heap.size = kr := ⟨_, rfl⟩
  rw [← hw0] at hb0 hD0 hE0 hL0 hc0
  rw [← hw0, hkr] at hR0
  have HRK := Lib.hid hR0.lt
  have HHK := Lib.hid (show h < kr by rw [← hkr]; exact hE.lt)
  have HB0 := Lib.hid (Tn.of_below (g := h) hb0)
  have q0 : w0.cell? ⟨kc, 0, none⟩ = some (.pointer (some ⟨h, 0, none⟩)) := by rw [cell_of_row w0 kc 0 _ _ _ hc0]; rfl
  have hkc0 := (Array.getElem?_eq_some_iff.1 hc0).1
  clear hD hE hL hc hb0
  go_enter Tryz.func24, Tryz.ntmps24
  go_upto_region 1 with (fail)
  try rw [hkr]
  rw [← hw0]
  clear hkr hw0
  refine wp_region_plans (S := fun w' => w'.cell? ⟨kc, 0, none⟩ = some (.pointer (some ⟨h, 0, none⟩)) ∧ RpAt w' kr CC NN) (.take 0 (.take 1 (.take 3 (.one 2 (.take 4 .fin))))) (by kernel_rfl) (by kernel_rfl) ⟨q0, hR0⟩ ?_
  refine plan_take (v := ?_) rfl (by rfl) (fun w' hw' => ?_) ?_
  rotate_left
  · have x0 := hw'.1; have x1 := RpAt.cell0 hw'.2; have x2 := RpAt.cell1 hw'.2; go_simp; try with_reducible rfl
  try simp only [Act.put, List.getElem_toArray, List.getElem_cons_zero, List.getElem_cons_succ, List.setIfInBounds_toArray, List.set_cons_zero, List.set_cons_succ]
  refine plan_take (v := ?_) rfl (by rfl) (fun w' hw' => ?_) ?_
  rotate_left
  · go_simp; try with_reducible rfl
  try simp only [Act.put, List.getElem_toArray, List.getElem_cons_zero, List.getElem_cons_succ, List.setIfInBounds_toArray, List.set_cons_zero, List.set_cons_succ]
  refine plan_take (v := ?_) rfl (by rfl) (fun w' hw' => ?_) ?_
  rotate_left
  · have x0 := hw'.1; have x1 := RpAt.cell0 hw'.2; have x2 := RpAt.cell1 hw'.2; go_simp; try with_reducible rfl
  try simp only [Act.put, List.getElem_toArray, List.getElem_cons_zero, List.getElem_cons_succ, List.setIfInBounds_toArray, List.set_cons_zero, List.set_cons_succ]
  refine plan_one rfl (by rfl) fun K hK => ?_
  go_simp
  go_at_call 11
  refine (HT.out _ (hE0.below (Below.refl _ _).drew) (hL0.below ((Below.refl _ _).drew))).mono ?_
  rintro e1 w2 ⟨rfl, hd2, ht2⟩
  have ht2' : Tn h w0 w2 := ⟨ht2.os, ht2.tape, ht2.output, ht2.size, ht2.block⟩
  have hc2 := (ht2'.block kc hkc0 (fun e => by injection e with e; omega)).trans hc0
  have q2 : w2.cell? ⟨kc, 0, none⟩ = some (.pointer (some ⟨h, 0, none⟩)) := by rw [cell_of_row w2 kc 0 _ _ _ hc2]; rfl
  have hR2 : RpAt w2 kr CC NN := (ht2'.block kr HRK.out (fun e => by injection e with e; have := HHK.out; omega)).trans hR0
  have hD2 := Lib.hid (hD0.beside ht2' hn1 HGO.out.2)
  have hE2 := Lib.hid hd2
  have HT2 := Lib.hid (HB0.out.trans ht2')
  refine hK.out _ _ ⟨q2, hR2⟩ ?_
  clear hK K hd2 ht2 ht2' hD0 hE0 hL0 hR0 hc0 q0 HT HRK HHK HB0 hkc0 hR2
  try simp only [Act.put, List.getElem_toArray, List.getElem_cons_zero, List.getElem_cons_succ, List.setIfInBounds_toArray, List.set_cons_zero, List.set_cons_succ]
  refine plan_take (v := ?_) rfl (by rfl) (fun w' hw' => ?_) ?_
  rotate_left
  · go_simp; try with_reducible rfl
  try simp only [Act.put, List.getElem_toArray, List.getElem_cons_zero, List.getElem_cons_succ, List.setIfInBounds_toArray, List.set_cons_zero, List.set_cons_succ]
  refine plan_done (NoPanic.normal ?_)
  have HC2 := Lib.hid hc2
  clear hc2
  go_wp2_with fail
  refine (HPO.out _ hD2.out).mono ?_
  rintro e w3 ⟨A5, c5, rfl, ho5, hb3⟩
  have hm5 : MyRow w3 w2.heap.size 6 A5 d.p.ships.length := .of_own ho5
  have hD3 := hD2.out.below hb3
  clear ho5 HPO
  go_wp2_with fail
  refine (HPL.out _ hD3).mono ?_
  rintro e w4 ⟨A6, c6, rfl, ho6, hb4⟩
  have hm6 : MyRow w4 w3.heap.size 1 A6 (thePlan d.p).length := .of_own ho6
  have hm54 := hm5.below hb4 (Nat.le_refl _)
  have hB4 := below_go hb3 hb4
  have HAP := Lib.hid (show ∀ b x, A5 = some ⟨b, 0, none⟩ → A6 = some x → 0 < d.p.ships.length → 0 < (thePlan d.p).length → x.block ≠ b from fun b x e1 e2 h1 h2 => by
    obtain ⟨b5, _, _, _, f1, _, f3, _⟩ := hm5 h1
    obtain ⟨b6, _, _, _, f4, f5, _⟩ := hm6 h2
    rw [e1] at f1; rw [e2] at f4
    injection f1 with f1; injection f1 with f1; injection f4 with f4
    have := (Array.getElem?_eq_some_iff.1 f3).1
    rw [f4]; dsimp only; omega)
  have HB5 := Lib.hid (show ∀ b, A5 = some ⟨b, 0, none⟩ → 0 < d.p.ships.length → b < w4.heap.size from fun b e1 h1 => by
    obtain ⟨b5, _, _, _, f1, _, f3, _⟩ := hm54 h1
    rw [e1] at f1
    injection f1 with f1; injection f1 with f1
    have := (Array.getElem?_eq_some_iff.1 f3).1
    omega)
  have HM6 := Lib.hid (show MyRow w4 w2.heap.size 1 A6 (thePlan d.p).length from fun hn => by
    obtain ⟨b, cap, cur, T, h1, h2, h3⟩ := hm6 hn
    exact ⟨b, cap, cur, T, h1, Nat.le_trans hb3.size h2, h3⟩)
  obtain ⟨v2, v3, v4, v5, v6, v7, v8, v9, v10, v11, v12, v13, v14, v15, hv, hvo⟩ := port_twoM d.p A5 c5
  rw [hv]
  clear hv hD3 ho6 HPL hm5 hm6 hb3 hb4
  go_upto_region 4 with (refine wpList_store_box rfl rfl (by first | rfl | simp [Act.eval, Act.put]) (by first | rfl | simp [Act.eval, Act.put]) (BoxAt.new w4 _) rfl rfl hvo ?_; intro w5 hP5 hr5)
  have hb5 : Below w4.heap.size w4 w5 := ((Below.refl _ _).alloc (Nat.le_refl _) _).trans (hr5.below (Nat.le_refl _))
  obtain ⟨kp, hkp⟩ : ∃ kp, w4.heap.size = kp := ⟨_, rfl⟩
  rw [hkp] at hP5
  try rw [hkp]
  obtain ⟨n, hn⟩ : ∃ n, d.p.ships.length = n := ⟨_, rfl⟩
  obtain ⟨m, hm⟩ : ∃ m, (thePlan d.p).length = m := ⟨_, rfl⟩
  have hnm : n ≤ 14 ∧ m = n := by rw [← hn, ← hm]; exact ⟨HG.out.len, plan_len HG.out⟩
  rw [hn] at hP5 hm54 HB5
  rw [hm] at HM6
  rw [hn, hm] at HAP
  simp only [hn, hm]
  obtain ⟨hn14, rfl⟩ := hnm
  have HMM := Lib.hid (fun (h0 : 0 < m) => show MemAt w2 w2.heap.size A5 A6 kp m m #[.int .i64 d.p.now, .slice A5 m c5, v2, v3, v4, v5, v6, v7, v8, v9, v10, v11, v12, v13, v14, v15] w5 from
    ⟨below_go hB4 hb5, hP5, by rw [← hkp]; exact hB4.size, hm54.below hb5 (Nat.le_refl _), HM6.out.below hb5 (Nat.le_refl _), fun b x e1 e2 => HAP.out b x e1 e2 h0 h0, fun b e => by have := HB5.out b e h0; omega⟩)
  have HBB := Lib.hid (below_go hB4 hb5)
  have k1 : w5.cell? ⟨kp, 1, none⟩ = some (.slice A5 m c5) := hP5.cell 1
  clear hkp hn hm HAP HB5 HM6 hm54 hB4 hb5 hr5 hvo hP5
  go_wp2_with fail
  go_loopw [24] (fun i wr => ∃ k : Nat, k ≤ m ∧ i = .int .i64 k ∧ (0 < m → MemAt w2 w2.heap.size A5 A6 kp m m #[.int .i64 d.p.now, .slice A5 m c5, v2, v3, v4, v5, v6, v7, v8, v9, v10, v11, v12, v13, v14, v15] wr) ∧ Below w2.heap.size w2 wr) (fun i _ => m - (intOf i).toNat)
  case atStart => exact ⟨0, Nat.zero_le _, rfl, HMM.out, HBB.out⟩
  case round =>
    obtain ⟨k, hk, rfl, hS, hSB⟩ := hrel
    clear HMM HBB k1
    by_cases hlt : k < m
    · have hS := hS (by omega)
      obtain ⟨b5, cap, cur, T5, hA5, hbl5, hrow5, hcap, hcs⟩ := hS.row5 (by omega)
      have HA5 := Lib.hid hA5
      subst hA5
      have k1 : wr.cell? ⟨kp, 1, none⟩ = some (.slice (some ⟨b5, 0, none⟩) m c5) := hS.boxP.cell 1
      have hbp := hS.box5 b5 rfl
      have HS := Lib.hid hS
      have HROW := Lib.hid hrow5
      have HCS := Lib.hid hcs
      have HCAP := Lib.hid hcap
      have HKC := Lib.hid (show k < cap by omega)
      clear hS hSB hrow5 hcap hcs HA5
      go_wp2_with (refine wpList_store_zero rfl rfl (by first | rfl | simp [Act.eval, Act.put]) (by first | rfl | simp [Act.eval, Act.put]) HROW.out HCS.out HKC.out ?_; intro wz cz hz1 hz2 hz3)
      have HST := Lib.hid (show MemAt w2 w2.heap.size (some ⟨b5, 0, none⟩) A6 kp m m #[.int .i64 d.p.now, .slice (some ⟨b5, 0, none⟩) m c5, v2, v3, v4, v5, v6, v7, v8, v9, v10, v11, v12, v13, v14, v15] wz from
        ⟨HS.out.below.trans (hz3.below hbl5), (hz3.block kp (Ne.symm hbp)).trans HS.out.boxP, HS.out.kpl, fun _ => ⟨b5, cap, cz, T5, rfl, hbl5, hz1, HCAP.out, hz2⟩, fun h0 => by
          obtain ⟨b6, cap6, cur6, T6, f1, f2, f3, f4, f5⟩ := HS.out.row6 h0
          exact ⟨b6, cap6, cur6, T6, f1, f2, (hz3.block b6 (HS.out.apart b5 _ rfl f1)).trans f3, f4, f5⟩, HS.out.apart, HS.out.box5⟩)
      clear HS HROW HCS HKC HCAP hz1 hz2 hz3
      go_roundw
      case rel => exact ⟨k + 1, by omega, by go_num, fun _ => HST.out, HST.out.below⟩
      case measure => simp [intOf] <;> omega
    · obtain rfl : k = m := by omega
      have HS := Lib.hid hS
      have HSB := Lib.hid hSB
      clear hS hSB
      go_wp2_with fail
      go_loopw [35] (fun i wr => ∃ j : Nat, j ≤ k ∧ i = .int .i64 j ∧ (0 < k → MyRow wr w2.heap.size 1 A6 k) ∧ Below w2.heap.size w2 wr) (fun i _ => k - (intOf i).toNat)
      case atStart => exact ⟨0, Nat.zero_le _, rfl, fun h0 => (HS.out h0).row6, HSB.out⟩
      case round =>
        obtain ⟨j, hj, rfl, hR, hRB⟩ := hrel
        clear HS HSB
        by_cases hlt2 : j < k
        · obtain ⟨b6, cap, cur, T6, hA6, hbl6, hrow6, hcap, hcs⟩ := hR (by omega) (by omega)
          subst hA6
          have hjl : j < cur.size := by rw [hcs]; omega
          have y0 : wr.cell? ⟨b6, j, none⟩ = some cur[j] := by rw [cell_of_row wr b6 j _ _ _ hrow6]; exact Array.getElem?_eq_getElem hjl
          have y1 : wr.frozen? ⟨b6, j, none⟩ = false := by simp [World.frozen?, hrow6]
          obtain ⟨u, hu⟩ : ∃ u, cur[j] = u := ⟨_, rfl⟩
          rw [hu] at y0
          have HN := Lib.hid (show MyRow (wr.setCell ⟨b6, j, none⟩ (.int .i64 (-9))) w2.heap.size 1 (some ⟨b6, 0, none⟩) k ∧ Below w2.heap.size w2 (wr.setCell ⟨b6, j, none⟩ (.int .i64 (-9))) from
            ⟨fun _ => ⟨b6, cap, _, T6, rfl, hbl6, by rw [setCell_eq_setRow wr b6 j _ _ _ _ hrow6]; exact setRow_heap wr b6 _ _ _ _ hrow6, hcap, by rw [Array.size_setIfInBounds]; exact hcs⟩, hRB.trans ((OneRow.of_cell wr ⟨b6, j, none⟩ _).below hbl6)⟩)
          clear hR hRB hrow6 hcap hcs hjl hu
          go_wp2_with fail
          go_roundw
          case rel => exact ⟨j + 1, by omega, by go_num, fun _ => HN.out.1, HN.out.2⟩
          case measure => simp [intOf] <;> omega
        · obtain rfl : j = k := by omega
          have q9 : wr.cell? ⟨kc, 0, none⟩ = some (.pointer (some ⟨h, 0, none⟩)) := by rw [cell_of_row wr kc 0 _ _ _ ((hRB.block kc (Array.getElem?_eq_some_iff.1 HC2.out).1).trans HC2.out)]; rfl
          have HRB := Lib.hid hRB
          clear hR hRB
          go_wp2_with fail
          refine (sameD_any G G g h d d _ (hD2.out.below HRB.out) (hE2.out.below HRB.out) rfl HG.out).mono ?_
          rintro e w9 ⟨rfl, hb9⟩
          have HEND := Lib.hid (below_go HRB.out hb9)
          clear HRB hb9
          go_wp2_with fail
          go_ret
          exact ⟨rfl, HT2.out.trans (Tn.of_below HEND.out), hE2.out.below HEND.out⟩
end Go.Proofs.YtifmdkcpbajdcabGreatDoor
