/- Walks: what a desk is told. -/
import Derived.Test.YtifmdkcpbajdcabGreatDoorDeskGu
set_option linter.unusedVariables false
set_option linter.unusedSimpArgs false
set_option maxHeartbeats 16000000
namespace Go.Proofs.YtifmdkcpbajdcabGreatDoor
open Go.RowKit Go.Proofs Plain
open Go.Act renaming put -> aP, eval -> aE
open Go.Lib renaming hid -> hd_
def GR (G : Nat -> Prop) (k : Nat) : Nat -> Prop := fun b => G b \/ b = k
section
variable {w w1 w2 : World} {g k n : Nat} {G : Nat -> Prop} {d : Desk}
theorem Tn.after (h : Tn g w w1) (hb : Below n w1 w2) (hn : w.heap.size <= n) : Tn g w w2 :=
  ⟨hb.os.trans h.os, hb.tape.trans h.tape, hb.output.trans h.output, Nat.le_trans h.size hb.size, fun i hi hne => (hb.block i (Nat.lt_of_lt_of_le hi hn)).trans (h.block i hi hne)⟩
theorem Tn.row (h : Tn g w w1) (hr : OneRow k w1 w2) (hk : w.heap.size <= k) : Tn g w w2 := h.after (hr.below hk) (Nat.le_refl _)
theorem DeskAt.one (h : DeskAt w G g d) (hr : OneRow k w w1) (hk : G k) (hg : g ≠ k) : DeskAt w1 G g d := h.beside (Tn.of_one hr) hg hk
theorem OneRow.two (w : World) (k : Nat) (x y : Value) : OneRow k w ((w.setCell ⟨k, 0, none⟩ x).setCell ⟨k, 1, none⟩ y) := (OneRow.of_cell w ⟨k, 0, none⟩ x).trans (OneRow.of_cell _ ⟨k, 1, none⟩ y)
theorem desk_start (h : DeskAt w G g d) (cs : Array Value) : DeskAt (w.alloc (.cells cs 29)) (GR G w.heap.size) g d :=
  h.join ((Below.refl _ _).alloc (Nat.le_refl _) _) (fun b hb => by rcases hb with hb | hb; exact .inl hb; exact .inr (by omega)) (.inl h.own)
    (fun b hb => by rw [World.size_alloc]; rcases hb with hb | hb; have := h.all b hb; omega; omega)
theorem desk_acts (h : DeskAt w G g d) : DeskAt (w.setCell ⟨g, 18, none⟩ (.int .i64 ((d.acts : Int) + 1))) G g ⟨d.p, d.was, d.acts + 1⟩ := by
  have hr := OneRow.of_cell w ⟨g, 18, none⟩ (.int .i64 ((d.acts : Int) + 1))
  have hk : ∀ b, b < w.heap.size -> ¬ G b -> (w.setCell ⟨g, 18, none⟩ (.int .i64 ((d.acts : Int) + 1))).heap[b]? = w.heap[b]? := fun b _ hn => hr.block b fun e => hn (by rw [e]; exact h.own)
  obtain ⟨A, c, B, cB, K, v2, v3, v4, v5, v6, v7, v8, v9, v10, v11, v12, v13, v14, v15, h1, hd, h3, h4, h5⟩ := h.at_
  exact ⟨h.own, fun b hb => Nat.lt_of_lt_of_le (h.all b hb) (Nat.le_of_eq hr.size.symm), A, c, B, cB, K, v2, v3, v4, v5, v6, v7, v8, v9, v10, v11, v12, v13, v14, v15, h1, dk_acts hd, h3.same hk, h4.same hk, h5.same hk⟩
theorem tell_end {W : World} {a b c m : Int} (hD : DeskAt W (GR G k) g d) (hG : ∀ b, G b -> b < w.heap.size) (hg : G g) (hT : Tn g w W) (hk : w.heap.size = k) :
    RetD G g (.agg #[.int .i64 c, .int .i64 m]) d w (.returned (.agg #[.int .i64 c, .int .i64 m])) ((W.setCell ⟨k, 0, none⟩ (.int .i64 c)).setCell ⟨k, 1, none⟩ (.int .i64 m)) := by
  have hr := OneRow.two W k (.int .i64 c) (.int .i64 m)
  have hgk : g ≠ k := by have := hG g hg; omega
  have h1 := hD.one hr (.inr rfl) hgk
  exact ⟨rfl, h1.more hg (fun b hb => by have := h1.all b (.inl hb); exact this) fun b hb => .inl hb, hT.row hr (Nat.le_of_eq hk)⟩
end
set_option maxRecDepth 100000 in
theorem no_ans (e : Int) (w : World) : Calls Tryz.prog 26 #[.int .i64 e] w fun r w' => r = .returned (.agg #[.int .i64 e, .int .i64 0]) /\ Below w.heap.size w w' := by
  go_enter Tryz.func26, Tryz.ntmps26
  go_wp2
  refine bodyPost_ret (results_cell_row rfl _ _ w.heap.size 29 #[.int .i64 e, .int .i64 0] (0, 0) _ rfl (heap_alloc_new w _) Tryz.underlying29 rfl reply_sz) rfl ?_
  exact ⟨rfl, (Below.refl _ _).alloc (Nat.le_refl _) _⟩
section
variable {w w3 : World} {g k2 : Nat} {G : Nat -> Prop} {d : Desk}
theorem desk_keep (hD : DeskAt w G g d) (hb : Below w.heap.size w w3) (hk : w.heap.size = k2) (hst : StIn w3 G k2 d.p) :
    DeskAt (w3.setCell ⟨g, 17, none⟩ (.pointer (some ⟨k2, 0, none⟩))) G g ⟨d.p, some d.p, d.acts⟩ := by
  have h := hD.below hb
  have hr := OneRow.of_cell w3 ⟨g, 17, none⟩ (.pointer (some ⟨k2, 0, none⟩))
  have hsame : ∀ b, b < w3.heap.size -> ¬ G b -> (w3.setCell ⟨g, 17, none⟩ (.pointer (some ⟨k2, 0, none⟩))).heap[b]? = w3.heap[b]? := fun b _ hn => hr.block b fun e => hn (by rw [e]; exact h.own)
  have hn : ¬ G k2 := fun hg => by have := hD.all k2 hg; omega
  obtain ⟨A, c, B, cB, K, v2, v3, v4, v5, v6, v7, v8, v9, v10, v11, v12, v13, v14, v15, h1, hd, h3, h4, h5⟩ := h.at_
  exact ⟨h.own, fun b hb => Nat.lt_of_lt_of_le (h.all b hb) (Nat.le_of_eq hr.size.symm), A, c, B, cB, _, v2, v3, v4, v5, v6, v7, v8, v9, v10, v11, v12, v13, v14, v15, h1, dk_kept hd, h3.same hsame, h4.same hsame, ⟨k2, rfl, hn, hst.same hn hsame⟩⟩
theorem desk_drop (h : DeskAt w G g d) : DeskAt (w.setCell ⟨g, 17, none⟩ (.pointer none)) G g ⟨d.p, none, d.acts⟩ := by
  have hr := OneRow.of_cell w ⟨g, 17, none⟩ (.pointer none)
  have hsame : ∀ b, b < w.heap.size -> ¬ G b -> (w.setCell ⟨g, 17, none⟩ (.pointer none)).heap[b]? = w.heap[b]? := fun b _ hn => hr.block b fun e => hn (by rw [e]; exact h.own)
  obtain ⟨A, c, B, cB, K, v2, v3, v4, v5, v6, v7, v8, v9, v10, v11, v12, v13, v14, v15, h1, hd, h3, h4, h5⟩ := h.at_
  exact ⟨h.own, fun b hb => Nat.lt_of_lt_of_le (h.all b hb) (Nat.le_of_eq hr.size.symm), A, c, B, cB, _, v2, v3, v4, v5, v6, v7, v8, v9, v10, v11, v12, v13, v14, v15, h1, dk_kept hd, h3.same hsame, h4.same hsame, rfl⟩
end
set_option maxRecDepth 100000 in
theorem tell_no (Bt : Nat) (G : Nat -> Prop) (g : Nat) (p : Port) (was : Option Port) (ac : Nat) (s : ByteArray) (w : World) (hD : DeskAt w G g ⟨p, was, ac⟩) (hL : LineAt Bt w) (hgB : Bt <= g) (hs : s.size <= maxLen) (h250 : ac < 250) (hp : parseL s.data.toList = none) :
    Calls Tryz.prog 11 #[.pointer (some ⟨g, 0, none⟩), .string s] w (RetD G g (.agg #[.int .i64 (1), .int .i64 (0)]) ⟨p, was, ac + 1⟩ w) := by
  have hgl := hD.lt
  have hall := hD.all
  have hown := hD.own
  have hr6 := OneRow.of_cell w ⟨g, 18, none⟩ (.int .i64 ((ac : Int) + 1))
  have hsz6 := hr6.size
  have hD6 := desk_start (desk_acts hD) #[.int .i64 0, .int .i64 0]
  have hR6 := RpAt.new (w.setCell ⟨g, 18, none⟩ (.int .i64 ((ac : Int) + 1))) 0 0
  have hT6 : Tn g w ((w.setCell ⟨g, 18, none⟩ (.int .i64 ((ac : Int) + 1))).alloc (.cells #[.int .i64 0, .int .i64 0] 29)) := (Tn.of_one hr6).trans (Tn.of_below ((Below.refl _ _).alloc (Nat.le_refl _) _))
  have hL6 := hL.below (hT6.below hgB hL.size)
  dsimp only at hsz6 hD6
  rw [hsz6] at hD6 hR6
  have hc18 : w.cell? ⟨g, 18, none⟩ = some (.int .i64 ac) := by
    obtain ⟨A, c, B, cB, K0, v2, v3, v4, v5, v6, v7, v8, v9, v10, v11, v12, v13, v14, v15, hv, hb, -⟩ := hD.at_
    exact hb.cell 18
  have hf18 : w.frozen? ⟨g, 18, none⟩ = false := by
    obtain ⟨A, c, B, cB, K0, v2, v3, v4, v5, v6, v7, v8, v9, v10, v11, v12, v13, v14, v15, hv, hb, -⟩ := hD.at_
    exact hb.frozen 18
  have hi6 : (ac : Int) < 250 := by omega
  have d250 : decide (250 <= (ac : Int)) = false := by simp; omega
  clear hD hr6 hL hsz6
  obtain ⟨W6, hW6⟩ : ∃ W6, W6 = (w.setCell ⟨g, 18, none⟩ (.int .i64 ((ac : Int) + 1))).alloc (.cells #[.int .i64 0, .int .i64 0] 29) := ⟨_, rfl⟩
  rw [<- hW6] at hD6 hT6 hL6 hR6
  go_enter Tryz.func11, Tryz.ntmps11
  go_wp2_with fail
  rw [<- hW6]
  clear hW6 hc18 hf18 d250
  refine (parse_any Bt s W6 hL6 hs).mono ?_
  rintro e w7 ⟨rfl, hb7⟩
  rw [hp]
  have hb8 := hb7.trans ((Below.refl W6.heap.size w7).alloc hb7.size (.cells #[.int .i64 0, .int .i64 0, .int .i64 0, .int .i64 0] 41))
  have hDq := hD6.below hb8
  have hTq := hT6.after hb8 hT6.size
  have hRq := hR6.below hb8 hR6.lt
  obtain ⟨k, hk⟩ : ∃ k, w.heap.size = k := ⟨_, rfl⟩
  rw [hk] at hRq hDq
  rw [hk]
  simp only [oOf, eOf, Option.getD_none, Option.isSome_none, noO, ordA]
  clear hD6 hT6 hL6 hR6 hp hi6 hb8
  go_wp2_with fail
  refine (no_ans 1 _).mono ?_
  rintro e w9 ⟨rfl, hb9⟩
  have hD9 := DeskAt.below hDq hb9
  have hT9 := hTq.after hb9 hTq.size
  have hR9 := RpAt.below hRq hb9 (RpAt.lt hRq)
  have c0 := hR9.cell0
  have c1 := hR9.cell1
  have f0 := hR9.frozen 0
  have f1 := hR9.frozen 1
  clear hDq hTq hRq hb9
  have HE := hd_ (tell_end (a := 0) (b := 0) (c := 1) (m := 0) hD9 hall hown hT9 hk)
  have HR := hd_ hR9
  clear hD9 hT9 hR9
  go_wp2_with fail
  refine bodyPost_ret (ans_end rfl rfl HR.out) rfl ?_
  exact HE.out
set_option maxRecDepth 100000 in
theorem tell_wait0 (Bt : Nat) (G : Nat -> Prop) (g : Nat) (p : Port) (was : Option Port) (ac : Nat) (s : ByteArray) (w : World) (hD : DeskAt w G g ⟨p, was, ac⟩) (hL : LineAt Bt w) (hgB : Bt <= g) (hs : s.size <= maxLen) (h250 : ac < 250) {oa ob oc : Int} (hp : parseL s.data.toList = some ⟨9, oa, ob, oc⟩) (hg : PGood p) (hn : i64 oa) (hw : oa < 1 \/ 300 - p.now <= oa) :
    Calls Tryz.prog 11 #[.pointer (some ⟨g, 0, none⟩), .string s] w (RetD G g (.agg #[.int .i64 (2), .int .i64 (0)]) ⟨p, was, ac + 1⟩ w) := by
  have hgl := hD.lt
  have hall := hD.all
  have hown := hD.own
  have hr6 := OneRow.of_cell w ⟨g, 18, none⟩ (.int .i64 ((ac : Int) + 1))
  have hsz6 := hr6.size
  have hD6 := desk_start (desk_acts hD) #[.int .i64 0, .int .i64 0]
  have hR6 := RpAt.new (w.setCell ⟨g, 18, none⟩ (.int .i64 ((ac : Int) + 1))) 0 0
  have hT6 : Tn g w ((w.setCell ⟨g, 18, none⟩ (.int .i64 ((ac : Int) + 1))).alloc (.cells #[.int .i64 0, .int .i64 0] 29)) := (Tn.of_one hr6).trans (Tn.of_below ((Below.refl _ _).alloc (Nat.le_refl _) _))
  have hL6 := hL.below (hT6.below hgB hL.size)
  dsimp only at hsz6 hD6
  rw [hsz6] at hD6 hR6
  have hc18 : w.cell? ⟨g, 18, none⟩ = some (.int .i64 ac) := by
    obtain ⟨A, c, B, cB, K0, v2, v3, v4, v5, v6, v7, v8, v9, v10, v11, v12, v13, v14, v15, hv, hb, -⟩ := hD.at_
    exact hb.cell 18
  have hf18 : w.frozen? ⟨g, 18, none⟩ = false := by
    obtain ⟨A, c, B, cB, K0, v2, v3, v4, v5, v6, v7, v8, v9, v10, v11, v12, v13, v14, v15, hv, hb, -⟩ := hD.at_
    exact hb.frozen 18
  have hi6 : (ac : Int) < 250 := by omega
  have d250 : decide (250 <= (ac : Int)) = false := by simp; omega
  clear hD hr6 hL hsz6
  obtain ⟨W6, hW6⟩ : ∃ W6, W6 = (w.setCell ⟨g, 18, none⟩ (.int .i64 ((ac : Int) + 1))).alloc (.cells #[.int .i64 0, .int .i64 0] 29) := ⟨_, rfl⟩
  rw [<- hW6] at hD6 hT6 hL6 hR6
  go_enter Tryz.func11, Tryz.ntmps11
  go_wp2_with fail
  rw [<- hW6]
  clear hW6 hc18 hf18 d250
  refine (parse_any Bt s W6 hL6 hs).mono ?_
  rintro e w7 ⟨rfl, hb7⟩
  rw [hp]
  have hO8 := OrdAt.new w7 ⟨9, oa, ob, oc⟩
  have hb8 := hb7.trans ((Below.refl W6.heap.size w7).alloc hb7.size (.cells (ordA ⟨9, oa, ob, oc⟩) 41))
  have hDq := hD6.below hb8
  have hTq := hT6.after hb8 hT6.size
  have hRq := hR6.below hb8 hR6.lt
  have hkO : w.heap.size < w7.heap.size := Nat.lt_of_lt_of_le hR6.lt hb7.size
  simp only [ordA] at hO8 hDq hTq hRq
  simp only [oOf, eOf, Option.getD_some, Option.isSome_some, if_true, ordA]
  obtain ⟨k, hk⟩ : ∃ k, w.heap.size = k := ⟨_, rfl⟩
  rw [hk] at hRq hDq hkO
  rw [hk]
  obtain ⟨kO, hkO2⟩ : ∃ kO, w7.heap.size = kO := ⟨_, rfl⟩
  rw [hkO2] at hO8 hkO
  clear hD6 hT6 hL6 hR6 hb8 hp hi6
  go_upto_region 10 with (fail)
  try rw [hkO2]
  obtain ⟨wq, hwq⟩ : ∃ wq, wq = w7.alloc (.cells #[.int .i64 9, .int .i64 oa, .int .i64 ob, .int .i64 oc] 41) := ⟨_, rfl⟩
  rw [<- hwq] at hO8 hDq hTq hRq
  rw [<- hwq]
  clear hwq hb7 hkO2
  have hOA := OrdAt.lt (o := ⟨9, oa, ob, oc⟩) hO8
  obtain ⟨f0, f1, f2, f3, e0, e1, e2, e3⟩ := OrdAt.facts (o := ⟨9, oa, ob, oc⟩) hO8
  dsimp only at e0 e1 e2 e3
  clear f0 f1 f2 f3
  have hdk : k < wq.heap.size := RpAt.lt hRq
  have hgk : g ≠ k := by omega
  go_wp2_with fail
  refine (wait_bad (GR G k) g ⟨p, was, ac + 1⟩ oa wq hDq hg hn hw).mono ?_
  rintro e w8 ⟨rfl, hD8, hT8⟩
  have hR8 : RpAt w8 k 0 0 := (hT8.block k hdk (fun e => hgk (by injection e with e; exact e.symm))).trans hRq
  have hT8' := hTq.trans hT8
  try dsimp only at hD8
  clear hDq hTq hRq hT8 hdk
  have hDq := hD8
  have hTq := hT8'
  have hRq := hR8
  clear hD8 hT8' hR8 e0 e1 e2 e3 hO8 hOA
  go_wp2_with fail
  refine (no_ans 2 _).mono ?_
  rintro e w9 ⟨rfl, hb9⟩
  have hD9 := DeskAt.below hDq hb9
  have hT9 := hTq.after hb9 hTq.size
  have hR9 := RpAt.below hRq hb9 (RpAt.lt hRq)
  have c0 := hR9.cell0
  have c1 := hR9.cell1
  have f0 := hR9.frozen 0
  have f1 := hR9.frozen 1
  clear hDq hTq hRq hb9
  have HE := hd_ (tell_end (a := 0) (b := 0) (c := 2) (m := 0) hD9 hall hown hT9 hk)
  have HR := hd_ hR9
  clear hD9 hT9 hR9
  go_wp2_with fail
  refine bodyPost_ret (ans_end rfl rfl HR.out) rfl ?_
  exact HE.out
set_option maxRecDepth 100000 in
theorem tell_wait1 (Bt : Nat) (G : Nat -> Prop) (g : Nat) (p : Port) (was : Option Port) (ac : Nat) (s : ByteArray) (w : World) (hD : DeskAt w G g ⟨p, was, ac⟩) (hL : LineAt Bt w) (hgB : Bt <= g) (hs : s.size <= maxLen) (h250 : ac < 250) {oa ob oc : Int} (hp : parseL s.data.toList = some ⟨9, oa, ob, oc⟩) (hg : Settled p) (hw1 : 1 <= oa) (hw2 : oa < 300 - p.now) :
    Calls Tryz.prog 11 #[.pointer (some ⟨g, 0, none⟩), .string s] w (RetD G g (.agg #[.int .i64 (0), .int .i64 (0)]) ⟨waitL p oa.toNat, was, ac + 1⟩ w) := by
  have hgl := hD.lt
  have hall := hD.all
  have hown := hD.own
  have hr6 := OneRow.of_cell w ⟨g, 18, none⟩ (.int .i64 ((ac : Int) + 1))
  have hsz6 := hr6.size
  have hD6 := desk_start (desk_acts hD) #[.int .i64 0, .int .i64 0]
  have hR6 := RpAt.new (w.setCell ⟨g, 18, none⟩ (.int .i64 ((ac : Int) + 1))) 0 0
  have hT6 : Tn g w ((w.setCell ⟨g, 18, none⟩ (.int .i64 ((ac : Int) + 1))).alloc (.cells #[.int .i64 0, .int .i64 0] 29)) := (Tn.of_one hr6).trans (Tn.of_below ((Below.refl _ _).alloc (Nat.le_refl _) _))
  have hL6 := hL.below (hT6.below hgB hL.size)
  dsimp only at hsz6 hD6
  rw [hsz6] at hD6 hR6
  have hc18 : w.cell? ⟨g, 18, none⟩ = some (.int .i64 ac) := by
    obtain ⟨A, c, B, cB, K0, v2, v3, v4, v5, v6, v7, v8, v9, v10, v11, v12, v13, v14, v15, hv, hb, -⟩ := hD.at_
    exact hb.cell 18
  have hf18 : w.frozen? ⟨g, 18, none⟩ = false := by
    obtain ⟨A, c, B, cB, K0, v2, v3, v4, v5, v6, v7, v8, v9, v10, v11, v12, v13, v14, v15, hv, hb, -⟩ := hD.at_
    exact hb.frozen 18
  have hi6 : (ac : Int) < 250 := by omega
  have d250 : decide (250 <= (ac : Int)) = false := by simp; omega
  clear hD hr6 hL hsz6
  obtain ⟨W6, hW6⟩ : ∃ W6, W6 = (w.setCell ⟨g, 18, none⟩ (.int .i64 ((ac : Int) + 1))).alloc (.cells #[.int .i64 0, .int .i64 0] 29) := ⟨_, rfl⟩
  rw [<- hW6] at hD6 hT6 hL6 hR6
  go_enter Tryz.func11, Tryz.ntmps11
  go_wp2_with fail
  rw [<- hW6]
  clear hW6 hc18 hf18 d250
  refine (parse_any Bt s W6 hL6 hs).mono ?_
  rintro e w7 ⟨rfl, hb7⟩
  rw [hp]
  have hO8 := OrdAt.new w7 ⟨9, oa, ob, oc⟩
  have hb8 := hb7.trans ((Below.refl W6.heap.size w7).alloc hb7.size (.cells (ordA ⟨9, oa, ob, oc⟩) 41))
  have hDq := hD6.below hb8
  have hTq := hT6.after hb8 hT6.size
  have hRq := hR6.below hb8 hR6.lt
  have hkO : w.heap.size < w7.heap.size := Nat.lt_of_lt_of_le hR6.lt hb7.size
  simp only [ordA] at hO8 hDq hTq hRq
  simp only [oOf, eOf, Option.getD_some, Option.isSome_some, if_true, ordA]
  obtain ⟨k, hk⟩ : ∃ k, w.heap.size = k := ⟨_, rfl⟩
  rw [hk] at hRq hDq hkO
  rw [hk]
  obtain ⟨kO, hkO2⟩ : ∃ kO, w7.heap.size = kO := ⟨_, rfl⟩
  rw [hkO2] at hO8 hkO
  clear hD6 hT6 hL6 hR6 hb8 hp hi6
  go_upto_region 10 with (fail)
  try rw [hkO2]
  obtain ⟨wq, hwq⟩ : ∃ wq, wq = w7.alloc (.cells #[.int .i64 9, .int .i64 oa, .int .i64 ob, .int .i64 oc] 41) := ⟨_, rfl⟩
  rw [<- hwq] at hO8 hDq hTq hRq
  rw [<- hwq]
  clear hwq hb7 hkO2
  have hOA := OrdAt.lt (o := ⟨9, oa, ob, oc⟩) hO8
  obtain ⟨f0, f1, f2, f3, e0, e1, e2, e3⟩ := OrdAt.facts (o := ⟨9, oa, ob, oc⟩) hO8
  dsimp only at e0 e1 e2 e3
  clear f0 f1 f2 f3
  have hdk : k < wq.heap.size := RpAt.lt hRq
  have hgk : g ≠ k := by omega
  go_wp2_with fail
  refine (wait_good (GR G k) g ⟨p, was, ac + 1⟩ oa wq hDq hg hw1 hw2).mono ?_
  rintro e w8 ⟨rfl, hD8, hT8⟩
  have hR8 : RpAt w8 k 0 0 := (hT8.block k hdk (fun e => hgk (by injection e with e; exact e.symm))).trans hRq
  have hT8' := hTq.trans hT8
  try dsimp only at hD8
  clear hDq hTq hRq hT8 hdk
  have hDq := hD8
  have hTq := hT8'
  have hRq := hR8
  clear hD8 hT8' hR8 e0 e1 e2 e3 hO8 hOA
  go_wp2_with fail
  refine (no_ans 0 _).mono ?_
  rintro e w9 ⟨rfl, hb9⟩
  have hD9 := DeskAt.below hDq hb9
  have hT9 := hTq.after hb9 hTq.size
  have hR9 := RpAt.below hRq hb9 (RpAt.lt hRq)
  have c0 := hR9.cell0
  have c1 := hR9.cell1
  have f0 := hR9.frozen 0
  have f1 := hR9.frozen 1
  clear hDq hTq hRq hb9
  have HE := hd_ (tell_end (a := 0) (b := 0) (c := 0) (m := 0) hD9 hall hown hT9 hk)
  have HR := hd_ hR9
  clear hD9 hT9 hR9
  go_wp2_with fail
  refine bodyPost_ret (ans_end rfl rfl HR.out) rfl ?_
  exact HE.out
set_option maxRecDepth 100000 in
theorem tell_begin0 (Bt : Nat) (G : Nat -> Prop) (g : Nat) (p : Port) (was : Option Port) (ac : Nat) (s : ByteArray) (w : World) (hD : DeskAt w G g ⟨p, was, ac⟩) (hL : LineAt Bt w) (hgB : Bt <= g) (hs : s.size <= maxLen) (h250 : ac < 250) {oa ob oc : Int} (hp : parseL s.data.toList = some ⟨10, oa, ob, oc⟩) (q : Port) (hq : was = some q) :
    Calls Tryz.prog 11 #[.pointer (some ⟨g, 0, none⟩), .string s] w (RetD G g (.agg #[.int .i64 (7), .int .i64 (0)]) ⟨p, was, ac + 1⟩ w) := by
  have hgl := hD.lt
  have hall := hD.all
  have hown := hD.own
  have hr6 := OneRow.of_cell w ⟨g, 18, none⟩ (.int .i64 ((ac : Int) + 1))
  have hsz6 := hr6.size
  have hD6 := desk_start (desk_acts hD) #[.int .i64 0, .int .i64 0]
  have hR6 := RpAt.new (w.setCell ⟨g, 18, none⟩ (.int .i64 ((ac : Int) + 1))) 0 0
  have hT6 : Tn g w ((w.setCell ⟨g, 18, none⟩ (.int .i64 ((ac : Int) + 1))).alloc (.cells #[.int .i64 0, .int .i64 0] 29)) := (Tn.of_one hr6).trans (Tn.of_below ((Below.refl _ _).alloc (Nat.le_refl _) _))
  have hL6 := hL.below (hT6.below hgB hL.size)
  dsimp only at hsz6 hD6
  rw [hsz6] at hD6 hR6
  have hc18 : w.cell? ⟨g, 18, none⟩ = some (.int .i64 ac) := by
    obtain ⟨A, c, B, cB, K0, v2, v3, v4, v5, v6, v7, v8, v9, v10, v11, v12, v13, v14, v15, hv, hb, -⟩ := hD.at_
    exact hb.cell 18
  have hf18 : w.frozen? ⟨g, 18, none⟩ = false := by
    obtain ⟨A, c, B, cB, K0, v2, v3, v4, v5, v6, v7, v8, v9, v10, v11, v12, v13, v14, v15, hv, hb, -⟩ := hD.at_
    exact hb.frozen 18
  have hi6 : (ac : Int) < 250 := by omega
  have d250 : decide (250 <= (ac : Int)) = false := by simp; omega
  clear hD hr6 hL hsz6
  obtain ⟨W6, hW6⟩ : ∃ W6, W6 = (w.setCell ⟨g, 18, none⟩ (.int .i64 ((ac : Int) + 1))).alloc (.cells #[.int .i64 0, .int .i64 0] 29) := ⟨_, rfl⟩
  rw [<- hW6] at hD6 hT6 hL6 hR6
  go_enter Tryz.func11, Tryz.ntmps11
  go_wp2_with fail
  rw [<- hW6]
  clear hW6 hc18 hf18 d250
  refine (parse_any Bt s W6 hL6 hs).mono ?_
  rintro e w7 ⟨rfl, hb7⟩
  rw [hp]
  have hO8 := OrdAt.new w7 ⟨10, oa, ob, oc⟩
  have hb8 := hb7.trans ((Below.refl W6.heap.size w7).alloc hb7.size (.cells (ordA ⟨10, oa, ob, oc⟩) 41))
  have hDq := hD6.below hb8
  have hTq := hT6.after hb8 hT6.size
  have hRq := hR6.below hb8 hR6.lt
  have hkO : w.heap.size < w7.heap.size := Nat.lt_of_lt_of_le hR6.lt hb7.size
  simp only [ordA] at hO8 hDq hTq hRq
  simp only [oOf, eOf, Option.getD_some, Option.isSome_some, if_true, ordA]
  obtain ⟨k, hk⟩ : ∃ k, w.heap.size = k := ⟨_, rfl⟩
  rw [hk] at hRq hDq hkO
  rw [hk]
  obtain ⟨kO, hkO2⟩ : ∃ kO, w7.heap.size = kO := ⟨_, rfl⟩
  rw [hkO2] at hO8 hkO
  clear hD6 hT6 hL6 hR6 hb8 hp hi6
  go_upto_region 10 with (fail)
  try rw [hkO2]
  obtain ⟨wq, hwq⟩ : ∃ wq, wq = w7.alloc (.cells #[.int .i64 10, .int .i64 oa, .int .i64 ob, .int .i64 oc] 41) := ⟨_, rfl⟩
  rw [<- hwq] at hO8 hDq hTq hRq
  rw [<- hwq]
  clear hwq hb7 hkO2
  have hOA := OrdAt.lt (o := ⟨10, oa, ob, oc⟩) hO8
  obtain ⟨f0, f1, f2, f3, e0, e1, e2, e3⟩ := OrdAt.facts (o := ⟨10, oa, ob, oc⟩) hO8
  dsimp only at e0 e1 e2 e3
  clear f0 f1 f2 f3
  subst hq
  obtain ⟨A, c, B, cB, K0, v2, v3, v4, v5, v6, v7, v8, v9, v10, v11, v12, v13, v14, v15, hv, hb, hrA, hrB, hK⟩ := hDq.at_
  dsimp only at hv hb hrA hrB hK
  have hc17 : wq.cell? ⟨g, 17, none⟩ = some (.pointer K0) := hb.cell 17
  obtain ⟨k2, rfl, hn2, hst⟩ := hK
  clear hv hb hrA hrB
  go_wp2_with fail
  refine (no_ans 7 _).mono ?_
  rintro e w9 ⟨rfl, hb9⟩
  have hD9 := DeskAt.below hDq hb9
  have hT9 := hTq.after hb9 hTq.size
  have hR9 := RpAt.below hRq hb9 (RpAt.lt hRq)
  have c0 := hR9.cell0
  have c1 := hR9.cell1
  have f0 := hR9.frozen 0
  have f1 := hR9.frozen 1
  clear hDq hTq hRq hb9
  have HE := hd_ (tell_end (a := 0) (b := 0) (c := 7) (m := 0) hD9 hall hown hT9 hk)
  have HR := hd_ hR9
  clear hD9 hT9 hR9
  go_wp2_with fail
  refine bodyPost_ret (ans_end rfl rfl HR.out) rfl ?_
  exact HE.out
set_option maxRecDepth 100000 in
theorem tell_commit0 (Bt : Nat) (G : Nat -> Prop) (g : Nat) (p : Port) (was : Option Port) (ac : Nat) (s : ByteArray) (w : World) (hD : DeskAt w G g ⟨p, was, ac⟩) (hL : LineAt Bt w) (hgB : Bt <= g) (hs : s.size <= maxLen) (h250 : ac < 250) {oa ob oc : Int} (hp : parseL s.data.toList = some ⟨11, oa, ob, oc⟩) (hq : was = none) :
    Calls Tryz.prog 11 #[.pointer (some ⟨g, 0, none⟩), .string s] w (RetD G g (.agg #[.int .i64 (7), .int .i64 (0)]) ⟨p, was, ac + 1⟩ w) := by
  have hgl := hD.lt
  have hall := hD.all
  have hown := hD.own
  have hr6 := OneRow.of_cell w ⟨g, 18, none⟩ (.int .i64 ((ac : Int) + 1))
  have hsz6 := hr6.size
  have hD6 := desk_start (desk_acts hD) #[.int .i64 0, .int .i64 0]
  have hR6 := RpAt.new (w.setCell ⟨g, 18, none⟩ (.int .i64 ((ac : Int) + 1))) 0 0
  have hT6 : Tn g w ((w.setCell ⟨g, 18, none⟩ (.int .i64 ((ac : Int) + 1))).alloc (.cells #[.int .i64 0, .int .i64 0] 29)) := (Tn.of_one hr6).trans (Tn.of_below ((Below.refl _ _).alloc (Nat.le_refl _) _))
  have hL6 := hL.below (hT6.below hgB hL.size)
  dsimp only at hsz6 hD6
  rw [hsz6] at hD6 hR6
  have hc18 : w.cell? ⟨g, 18, none⟩ = some (.int .i64 ac) := by
    obtain ⟨A, c, B, cB, K0, v2, v3, v4, v5, v6, v7, v8, v9, v10, v11, v12, v13, v14, v15, hv, hb, -⟩ := hD.at_
    exact hb.cell 18
  have hf18 : w.frozen? ⟨g, 18, none⟩ = false := by
    obtain ⟨A, c, B, cB, K0, v2, v3, v4, v5, v6, v7, v8, v9, v10, v11, v12, v13, v14, v15, hv, hb, -⟩ := hD.at_
    exact hb.frozen 18
  have hi6 : (ac : Int) < 250 := by omega
  have d250 : decide (250 <= (ac : Int)) = false := by simp; omega
  clear hD hr6 hL hsz6
  obtain ⟨W6, hW6⟩ : ∃ W6, W6 = (w.setCell ⟨g, 18, none⟩ (.int .i64 ((ac : Int) + 1))).alloc (.cells #[.int .i64 0, .int .i64 0] 29) := ⟨_, rfl⟩
  rw [<- hW6] at hD6 hT6 hL6 hR6
  go_enter Tryz.func11, Tryz.ntmps11
  go_wp2_with fail
  rw [<- hW6]
  clear hW6 hc18 hf18 d250
  refine (parse_any Bt s W6 hL6 hs).mono ?_
  rintro e w7 ⟨rfl, hb7⟩
  rw [hp]
  have hO8 := OrdAt.new w7 ⟨11, oa, ob, oc⟩
  have hb8 := hb7.trans ((Below.refl W6.heap.size w7).alloc hb7.size (.cells (ordA ⟨11, oa, ob, oc⟩) 41))
  have hDq := hD6.below hb8
  have hTq := hT6.after hb8 hT6.size
  have hRq := hR6.below hb8 hR6.lt
  have hkO : w.heap.size < w7.heap.size := Nat.lt_of_lt_of_le hR6.lt hb7.size
  simp only [ordA] at hO8 hDq hTq hRq
  simp only [oOf, eOf, Option.getD_some, Option.isSome_some, if_true, ordA]
  obtain ⟨k, hk⟩ : ∃ k, w.heap.size = k := ⟨_, rfl⟩
  rw [hk] at hRq hDq hkO
  rw [hk]
  obtain ⟨kO, hkO2⟩ : ∃ kO, w7.heap.size = kO := ⟨_, rfl⟩
  rw [hkO2] at hO8 hkO
  clear hD6 hT6 hL6 hR6 hb8 hp hi6
  go_upto_region 10 with (fail)
  try rw [hkO2]
  obtain ⟨wq, hwq⟩ : ∃ wq, wq = w7.alloc (.cells #[.int .i64 11, .int .i64 oa, .int .i64 ob, .int .i64 oc] 41) := ⟨_, rfl⟩
  rw [<- hwq] at hO8 hDq hTq hRq
  rw [<- hwq]
  clear hwq hb7 hkO2
  have hOA := OrdAt.lt (o := ⟨11, oa, ob, oc⟩) hO8
  obtain ⟨f0, f1, f2, f3, e0, e1, e2, e3⟩ := OrdAt.facts (o := ⟨11, oa, ob, oc⟩) hO8
  dsimp only at e0 e1 e2 e3
  clear f0 f1 f2 f3
  subst hq
  obtain ⟨A, c, B, cB, K0, v2, v3, v4, v5, v6, v7, v8, v9, v10, v11, v12, v13, v14, v15, hv, hb, hrA, hrB, hK⟩ := hDq.at_
  dsimp only at hv hb hrA hrB hK
  have hc17 : wq.cell? ⟨g, 17, none⟩ = some (.pointer K0) := hb.cell 17
  obtain rfl : K0 = none := hK
  clear hv hb hrA hrB
  go_wp2_with fail
  refine (no_ans 7 _).mono ?_
  rintro e w9 ⟨rfl, hb9⟩
  have hD9 := DeskAt.below hDq hb9
  have hT9 := hTq.after hb9 hTq.size
  have hR9 := RpAt.below hRq hb9 (RpAt.lt hRq)
  have c0 := hR9.cell0
  have c1 := hR9.cell1
  have f0 := hR9.frozen 0
  have f1 := hR9.frozen 1
  clear hDq hTq hRq hb9
  have HE := hd_ (tell_end (a := 0) (b := 0) (c := 7) (m := 0) hD9 hall hown hT9 hk)
  have HR := hd_ hR9
  clear hD9 hT9 hR9
  go_wp2_with fail
  refine bodyPost_ret (ans_end rfl rfl HR.out) rfl ?_
  exact HE.out
set_option maxRecDepth 100000 in
theorem tell_undo0 (Bt : Nat) (G : Nat -> Prop) (g : Nat) (p : Port) (was : Option Port) (ac : Nat) (s : ByteArray) (w : World) (hD : DeskAt w G g ⟨p, was, ac⟩) (hL : LineAt Bt w) (hgB : Bt <= g) (hs : s.size <= maxLen) (h250 : ac < 250) {oa ob oc : Int} (hp : parseL s.data.toList = some ⟨12, oa, ob, oc⟩) (hq : was = none) :
    Calls Tryz.prog 11 #[.pointer (some ⟨g, 0, none⟩), .string s] w (RetD G g (.agg #[.int .i64 (7), .int .i64 (0)]) ⟨p, was, ac + 1⟩ w) := by
  have hgl := hD.lt
  have hall := hD.all
  have hown := hD.own
  have hr6 := OneRow.of_cell w ⟨g, 18, none⟩ (.int .i64 ((ac : Int) + 1))
  have hsz6 := hr6.size
  have hD6 := desk_start (desk_acts hD) #[.int .i64 0, .int .i64 0]
  have hR6 := RpAt.new (w.setCell ⟨g, 18, none⟩ (.int .i64 ((ac : Int) + 1))) 0 0
  have hT6 : Tn g w ((w.setCell ⟨g, 18, none⟩ (.int .i64 ((ac : Int) + 1))).alloc (.cells #[.int .i64 0, .int .i64 0] 29)) := (Tn.of_one hr6).trans (Tn.of_below ((Below.refl _ _).alloc (Nat.le_refl _) _))
  have hL6 := hL.below (hT6.below hgB hL.size)
  dsimp only at hsz6 hD6
  rw [hsz6] at hD6 hR6
  have hc18 : w.cell? ⟨g, 18, none⟩ = some (.int .i64 ac) := by
    obtain ⟨A, c, B, cB, K0, v2, v3, v4, v5, v6, v7, v8, v9, v10, v11, v12, v13, v14, v15, hv, hb, -⟩ := hD.at_
    exact hb.cell 18
  have hf18 : w.frozen? ⟨g, 18, none⟩ = false := by
    obtain ⟨A, c, B, cB, K0, v2, v3, v4, v5, v6, v7, v8, v9, v10, v11, v12, v13, v14, v15, hv, hb, -⟩ := hD.at_
    exact hb.frozen 18
  have hi6 : (ac : Int) < 250 := by omega
  have d250 : decide (250 <= (ac : Int)) = false := by simp; omega
  clear hD hr6 hL hsz6
  obtain ⟨W6, hW6⟩ : ∃ W6, W6 = (w.setCell ⟨g, 18, none⟩ (.int .i64 ((ac : Int) + 1))).alloc (.cells #[.int .i64 0, .int .i64 0] 29) := ⟨_, rfl⟩
  rw [<- hW6] at hD6 hT6 hL6 hR6
  go_enter Tryz.func11, Tryz.ntmps11
  go_wp2_with fail
  rw [<- hW6]
  clear hW6 hc18 hf18 d250
  refine (parse_any Bt s W6 hL6 hs).mono ?_
  rintro e w7 ⟨rfl, hb7⟩
  rw [hp]
  have hO8 := OrdAt.new w7 ⟨12, oa, ob, oc⟩
  have hb8 := hb7.trans ((Below.refl W6.heap.size w7).alloc hb7.size (.cells (ordA ⟨12, oa, ob, oc⟩) 41))
  have hDq := hD6.below hb8
  have hTq := hT6.after hb8 hT6.size
  have hRq := hR6.below hb8 hR6.lt
  have hkO : w.heap.size < w7.heap.size := Nat.lt_of_lt_of_le hR6.lt hb7.size
  simp only [ordA] at hO8 hDq hTq hRq
  simp only [oOf, eOf, Option.getD_some, Option.isSome_some, if_true, ordA]
  obtain ⟨k, hk⟩ : ∃ k, w.heap.size = k := ⟨_, rfl⟩
  rw [hk] at hRq hDq hkO
  rw [hk]
  obtain ⟨kO, hkO2⟩ : ∃ kO, w7.heap.size = kO := ⟨_, rfl⟩
  rw [hkO2] at hO8 hkO
  clear hD6 hT6 hL6 hR6 hb8 hp hi6
  go_upto_region 10 with (fail)
  try rw [hkO2]
  obtain ⟨wq, hwq⟩ : ∃ wq, wq = w7.alloc (.cells #[.int .i64 12, .int .i64 oa, .int .i64 ob, .int .i64 oc] 41) := ⟨_, rfl⟩
  rw [<- hwq] at hO8 hDq hTq hRq
  rw [<- hwq]
  clear hwq hb7 hkO2
  have hOA := OrdAt.lt (o := ⟨12, oa, ob, oc⟩) hO8
  obtain ⟨f0, f1, f2, f3, e0, e1, e2, e3⟩ := OrdAt.facts (o := ⟨12, oa, ob, oc⟩) hO8
  dsimp only at e0 e1 e2 e3
  clear f0 f1 f2 f3
  subst hq
  obtain ⟨A, c, B, cB, K0, v2, v3, v4, v5, v6, v7, v8, v9, v10, v11, v12, v13, v14, v15, hv, hb, hrA, hrB, hK⟩ := hDq.at_
  dsimp only at hv hb hrA hrB hK
  have hc17 : wq.cell? ⟨g, 17, none⟩ = some (.pointer K0) := hb.cell 17
  obtain rfl : K0 = none := hK
  clear hv hb hrA hrB
  go_wp2_with fail
  refine (no_ans 7 _).mono ?_
  rintro e w9 ⟨rfl, hb9⟩
  have hD9 := DeskAt.below hDq hb9
  have hT9 := hTq.after hb9 hTq.size
  have hR9 := RpAt.below hRq hb9 (RpAt.lt hRq)
  have c0 := hR9.cell0
  have c1 := hR9.cell1
  have f0 := hR9.frozen 0
  have f1 := hR9.frozen 1
  clear hDq hTq hRq hb9
  have HE := hd_ (tell_end (a := 0) (b := 0) (c := 7) (m := 0) hD9 hall hown hT9 hk)
  have HR := hd_ hR9
  clear hD9 hT9 hR9
  go_wp2_with fail
  refine bodyPost_ret (ans_end rfl rfl HR.out) rfl ?_
  exact HE.out
set_option maxRecDepth 100000 in
theorem tell_begin1 (Bt : Nat) (G : Nat -> Prop) (g : Nat) (p : Port) (was : Option Port) (ac : Nat) (s : ByteArray) (w : World) (hD : DeskAt w G g ⟨p, was, ac⟩) (hL : LineAt Bt w) (hgB : Bt <= g) (hs : s.size <= maxLen) (h250 : ac < 250) {oa ob oc : Int} (hp : parseL s.data.toList = some ⟨10, oa, ob, oc⟩) (hq : was = none) :
    Calls Tryz.prog 11 #[.pointer (some ⟨g, 0, none⟩), .string s] w (RetD G g (.agg #[.int .i64 (0), .int .i64 (0)]) ⟨p, some p, ac + 1⟩ w) := by
  have hgl := hD.lt
  have hall := hD.all
  have hown := hD.own
  have hr6 := OneRow.of_cell w ⟨g, 18, none⟩ (.int .i64 ((ac : Int) + 1))
  have hsz6 := hr6.size
  have hD6 := desk_start (desk_acts hD) #[.int .i64 0, .int .i64 0]
  have hR6 := RpAt.new (w.setCell ⟨g, 18, none⟩ (.int .i64 ((ac : Int) + 1))) 0 0
  have hT6 : Tn g w ((w.setCell ⟨g, 18, none⟩ (.int .i64 ((ac : Int) + 1))).alloc (.cells #[.int .i64 0, .int .i64 0] 29)) := (Tn.of_one hr6).trans (Tn.of_below ((Below.refl _ _).alloc (Nat.le_refl _) _))
  have hL6 := hL.below (hT6.below hgB hL.size)
  dsimp only at hsz6 hD6
  rw [hsz6] at hD6 hR6
  have hc18 : w.cell? ⟨g, 18, none⟩ = some (.int .i64 ac) := by
    obtain ⟨A, c, B, cB, K0, v2, v3, v4, v5, v6, v7, v8, v9, v10, v11, v12, v13, v14, v15, hv, hb, -⟩ := hD.at_
    exact hb.cell 18
  have hf18 : w.frozen? ⟨g, 18, none⟩ = false := by
    obtain ⟨A, c, B, cB, K0, v2, v3, v4, v5, v6, v7, v8, v9, v10, v11, v12, v13, v14, v15, hv, hb, -⟩ := hD.at_
    exact hb.frozen 18
  have hi6 : (ac : Int) < 250 := by omega
  have d250 : decide (250 <= (ac : Int)) = false := by simp; omega
  clear hD hr6 hL hsz6
  obtain ⟨W6, hW6⟩ : ∃ W6, W6 = (w.setCell ⟨g, 18, none⟩ (.int .i64 ((ac : Int) + 1))).alloc (.cells #[.int .i64 0, .int .i64 0] 29) := ⟨_, rfl⟩
  rw [<- hW6] at hD6 hT6 hL6 hR6
  go_enter Tryz.func11, Tryz.ntmps11
  go_wp2_with fail
  rw [<- hW6]
  clear hW6 hc18 hf18 d250
  refine (parse_any Bt s W6 hL6 hs).mono ?_
  rintro e w7 ⟨rfl, hb7⟩
  rw [hp]
  have hO8 := OrdAt.new w7 ⟨10, oa, ob, oc⟩
  have hb8 := hb7.trans ((Below.refl W6.heap.size w7).alloc hb7.size (.cells (ordA ⟨10, oa, ob, oc⟩) 41))
  have hDq := hD6.below hb8
  have hTq := hT6.after hb8 hT6.size
  have hRq := hR6.below hb8 hR6.lt
  have hkO : w.heap.size < w7.heap.size := Nat.lt_of_lt_of_le hR6.lt hb7.size
  simp only [ordA] at hO8 hDq hTq hRq
  simp only [oOf, eOf, Option.getD_some, Option.isSome_some, if_true, ordA]
  obtain ⟨k, hk⟩ : ∃ k, w.heap.size = k := ⟨_, rfl⟩
  rw [hk] at hRq hDq hkO
  rw [hk]
  obtain ⟨kO, hkO2⟩ : ∃ kO, w7.heap.size = kO := ⟨_, rfl⟩
  rw [hkO2] at hO8 hkO
  clear hD6 hT6 hL6 hR6 hb8 hp hi6
  go_upto_region 10 with (fail)
  try rw [hkO2]
  obtain ⟨wq, hwq⟩ : ∃ wq, wq = w7.alloc (.cells #[.int .i64 10, .int .i64 oa, .int .i64 ob, .int .i64 oc] 41) := ⟨_, rfl⟩
  rw [<- hwq] at hO8 hDq hTq hRq
  rw [<- hwq]
  clear hwq hb7 hkO2
  have hOA := OrdAt.lt (o := ⟨10, oa, ob, oc⟩) hO8
  obtain ⟨f0, f1, f2, f3, e0, e1, e2, e3⟩ := OrdAt.facts (o := ⟨10, oa, ob, oc⟩) hO8
  dsimp only at e0 e1 e2 e3
  clear f0 f1 f2 f3
  subst hq
  obtain ⟨A, c, B, cB, K0, v2, v3, v4, v5, v6, v7, v8, v9, v10, v11, v12, v13, v14, v15, hv, hb, hrA, hrB, hK⟩ := hDq.at_
  dsimp only at hv hb hrA hrB hK
  obtain rfl : K0 = none := hK
  have hc17 : wq.cell? ⟨g, 17, none⟩ = some (.pointer none) := hb.cell 17
  have hones := all_snoc16 (x := .slice B (thP p).length cB) (port_ones hv) rfl
  have hgq : g < wq.heap.size := DkBox.lt hb
  go_upto_region 17 with (first
    | (refine wpList_load_state rfl rfl ?hx hb rfl ?_; (case hx => first | rfl | (simp [aE, aP]; done)))
    | (refine wpList_store_state (us := #[.int .i64 p.now, .slice A p.ships.length c, v2, v3, v4, v5, v6, v7, v8, v9, v10, v11, v12, v13, v14, v15, .slice B (thP p).length cB]) rfl rfl (by first | rfl | simp [aE, aP]) (by first | rfl | simp [aE, aP]) (show StBox _ wq.heap.size #[.int .i64 0, .slice none 0 0, .int .i64 0, .int .i64 0, .int .i64 0, .int .i64 0, .int .i64 0, .int .i64 0, .int .i64 0, .int .i64 0, .int .i64 0, .int .i64 0, .int .i64 0, .int .i64 0, .int .i64 0, .int .i64 0, .slice none 0 0] from heap_alloc_new wq _) rfl rfl hones ?_; intro w3 h3 hr3))
  have hb3 : Below wq.heap.size wq w3 := ((Below.refl _ _).alloc (Nat.le_refl _) _).trans (hr3.below (Nat.le_refl _))
  have hst : StIn w3 (GR G k) wq.heap.size p := ⟨A, c, B, cB, _, _, _, _, _, _, _, _, _, _, _, _, _, _, hv, h3, hrA.same (fun b h _ => hb3.block b h), hrB.same (fun b h _ => hb3.block b h)⟩
  have hD9 := desk_keep hDq hb3 rfl hst
  have hd3 := DkBox.below hb hb3 hgq
  have hc173 : w3.cell? ⟨g, 17, none⟩ = some (.pointer none) := hd3.cell 17
  have hf173 := hd3.frozen 17
  have hT3 := (hTq.after hb3 hTq.size).trans (Tn.of_one (OneRow.of_cell w3 ⟨g, 17, none⟩ (.pointer (some ⟨wq.heap.size, 0, none⟩))))
  have hR3 : RpAt _ k 0 0 := ((OneRow.of_cell w3 ⟨g, 17, none⟩ (.pointer (some ⟨wq.heap.size, 0, none⟩))).block k (by show k ≠ g; omega)).trans (hRq.below hb3 (RpAt.lt hRq))
  dsimp only at hD9
  clear hDq hTq hRq hv hb hrA hrB hc17 hones hr3 hb3 h3 hst hd3 e0 e1 e2 e3 hO8 hOA
  have hDq := hD9
  have hTq := hT3
  have hRq := hR3
  clear hD9 hT3 hR3
  go_wp2_with fail
  refine (no_ans 0 _).mono ?_
  rintro e w9 ⟨rfl, hb9⟩
  have hD9 := DeskAt.below hDq hb9
  have hT9 := hTq.after hb9 hTq.size
  have hR9 := RpAt.below hRq hb9 (RpAt.lt hRq)
  have c0 := hR9.cell0
  have c1 := hR9.cell1
  have f0 := hR9.frozen 0
  have f1 := hR9.frozen 1
  clear hDq hTq hRq hb9
  have HE := hd_ (tell_end (a := 0) (b := 0) (c := 0) (m := 0) hD9 hall hown hT9 hk)
  have HR := hd_ hR9
  clear hD9 hT9 hR9
  go_wp2_with fail
  refine bodyPost_ret (ans_end rfl rfl HR.out) rfl ?_
  exact HE.out
set_option maxRecDepth 100000 in
theorem tell_commit1 (Bt : Nat) (G : Nat -> Prop) (g : Nat) (p : Port) (was : Option Port) (ac : Nat) (s : ByteArray) (w : World) (hD : DeskAt w G g ⟨p, was, ac⟩) (hL : LineAt Bt w) (hgB : Bt <= g) (hs : s.size <= maxLen) (h250 : ac < 250) {oa ob oc : Int} (hp : parseL s.data.toList = some ⟨11, oa, ob, oc⟩) (q : Port) (hq : was = some q) :
    Calls Tryz.prog 11 #[.pointer (some ⟨g, 0, none⟩), .string s] w (RetD G g (.agg #[.int .i64 (0), .int .i64 (0)]) ⟨p, none, ac + 1⟩ w) := by
  have hgl := hD.lt
  have hall := hD.all
  have hown := hD.own
  have hr6 := OneRow.of_cell w ⟨g, 18, none⟩ (.int .i64 ((ac : Int) + 1))
  have hsz6 := hr6.size
  have hD6 := desk_start (desk_acts hD) #[.int .i64 0, .int .i64 0]
  have hR6 := RpAt.new (w.setCell ⟨g, 18, none⟩ (.int .i64 ((ac : Int) + 1))) 0 0
  have hT6 : Tn g w ((w.setCell ⟨g, 18, none⟩ (.int .i64 ((ac : Int) + 1))).alloc (.cells #[.int .i64 0, .int .i64 0] 29)) := (Tn.of_one hr6).trans (Tn.of_below ((Below.refl _ _).alloc (Nat.le_refl _) _))
  have hL6 := hL.below (hT6.below hgB hL.size)
  dsimp only at hsz6 hD6
  rw [hsz6] at hD6 hR6
  have hc18 : w.cell? ⟨g, 18, none⟩ = some (.int .i64 ac) := by
    obtain ⟨A, c, B, cB, K0, v2, v3, v4, v5, v6, v7, v8, v9, v10, v11, v12, v13, v14, v15, hv, hb, -⟩ := hD.at_
    exact hb.cell 18
  have hf18 : w.frozen? ⟨g, 18, none⟩ = false := by
    obtain ⟨A, c, B, cB, K0, v2, v3, v4, v5, v6, v7, v8, v9, v10, v11, v12, v13, v14, v15, hv, hb, -⟩ := hD.at_
    exact hb.frozen 18
  have hi6 : (ac : Int) < 250 := by omega
  have d250 : decide (250 <= (ac : Int)) = false := by simp; omega
  clear hD hr6 hL hsz6
  obtain ⟨W6, hW6⟩ : ∃ W6, W6 = (w.setCell ⟨g, 18, none⟩ (.int .i64 ((ac : Int) + 1))).alloc (.cells #[.int .i64 0, .int .i64 0] 29) := ⟨_, rfl⟩
  rw [<- hW6] at hD6 hT6 hL6 hR6
  go_enter Tryz.func11, Tryz.ntmps11
  go_wp2_with fail
  rw [<- hW6]
  clear hW6 hc18 hf18 d250
  refine (parse_any Bt s W6 hL6 hs).mono ?_
  rintro e w7 ⟨rfl, hb7⟩
  rw [hp]
  have hO8 := OrdAt.new w7 ⟨11, oa, ob, oc⟩
  have hb8 := hb7.trans ((Below.refl W6.heap.size w7).alloc hb7.size (.cells (ordA ⟨11, oa, ob, oc⟩) 41))
  have hDq := hD6.below hb8
  have hTq := hT6.after hb8 hT6.size
  have hRq := hR6.below hb8 hR6.lt
  have hkO : w.heap.size < w7.heap.size := Nat.lt_of_lt_of_le hR6.lt hb7.size
  simp only [ordA] at hO8 hDq hTq hRq
  simp only [oOf, eOf, Option.getD_some, Option.isSome_some, if_true, ordA]
  obtain ⟨k, hk⟩ : ∃ k, w.heap.size = k := ⟨_, rfl⟩
  rw [hk] at hRq hDq hkO
  rw [hk]
  obtain ⟨kO, hkO2⟩ : ∃ kO, w7.heap.size = kO := ⟨_, rfl⟩
  rw [hkO2] at hO8 hkO
  clear hD6 hT6 hL6 hR6 hb8 hp hi6
  go_upto_region 10 with (fail)
  try rw [hkO2]
  obtain ⟨wq, hwq⟩ : ∃ wq, wq = w7.alloc (.cells #[.int .i64 11, .int .i64 oa, .int .i64 ob, .int .i64 oc] 41) := ⟨_, rfl⟩
  rw [<- hwq] at hO8 hDq hTq hRq
  rw [<- hwq]
  clear hwq hb7 hkO2
  have hOA := OrdAt.lt (o := ⟨11, oa, ob, oc⟩) hO8
  obtain ⟨f0, f1, f2, f3, e0, e1, e2, e3⟩ := OrdAt.facts (o := ⟨11, oa, ob, oc⟩) hO8
  dsimp only at e0 e1 e2 e3
  clear f0 f1 f2 f3
  subst hq
  obtain ⟨A, c, B, cB, K0, v2, v3, v4, v5, v6, v7, v8, v9, v10, v11, v12, v13, v14, v15, hv, hb, hrA, hrB, hK⟩ := hDq.at_
  dsimp only at hv hb hrA hrB hK
  have hc17 : wq.cell? ⟨g, 17, none⟩ = some (.pointer K0) := hb.cell 17
  have hf17 := hb.frozen 17
  obtain ⟨k2, rfl, hn2, hst⟩ := hK
  have hD9 := desk_drop hDq
  have hT3 := hTq.trans (Tn.of_one (OneRow.of_cell wq ⟨g, 17, none⟩ (.pointer none)))
  have hR3 : RpAt _ k 0 0 := ((OneRow.of_cell wq ⟨g, 17, none⟩ (.pointer none)).block k (by show k ≠ g; omega)).trans hRq
  dsimp only at hD9
  clear hDq hTq hRq hv hb hrA hrB hst
  have hDq := hD9
  have hTq := hT3
  have hRq := hR3
  clear hD9 hT3 hR3
  go_wp2_with fail
  refine (no_ans 0 _).mono ?_
  rintro e w9 ⟨rfl, hb9⟩
  have hD9 := DeskAt.below hDq hb9
  have hT9 := hTq.after hb9 hTq.size
  have hR9 := RpAt.below hRq hb9 (RpAt.lt hRq)
  have c0 := hR9.cell0
  have c1 := hR9.cell1
  have f0 := hR9.frozen 0
  have f1 := hR9.frozen 1
  clear hDq hTq hRq hb9
  have HE := hd_ (tell_end (a := 0) (b := 0) (c := 0) (m := 0) hD9 hall hown hT9 hk)
  have HR := hd_ hR9
  clear hD9 hT9 hR9
  go_wp2_with fail
  refine bodyPost_ret (ans_end rfl rfl HR.out) rfl ?_
  exact HE.out
set_option maxRecDepth 100000 in
theorem tell_undo1 (Bt : Nat) (G : Nat -> Prop) (g : Nat) (p : Port) (was : Option Port) (ac : Nat) (s : ByteArray) (w : World) (hD : DeskAt w G g ⟨p, was, ac⟩) (hL : LineAt Bt w) (hgB : Bt <= g) (hs : s.size <= maxLen) (h250 : ac < 250) {oa ob oc : Int} (hp : parseL s.data.toList = some ⟨12, oa, ob, oc⟩) (q : Port) (hq : was = some q) :
    Calls Tryz.prog 11 #[.pointer (some ⟨g, 0, none⟩), .string s] w (RetD G g (.agg #[.int .i64 (0), .int .i64 (0)]) ⟨q, none, ac + 1⟩ w) := by
  have hgl := hD.lt
  have hall := hD.all
  have hown := hD.own
  have hr6 := OneRow.of_cell w ⟨g, 18, none⟩ (.int .i64 ((ac : Int) + 1))
  have hsz6 := hr6.size
  have hD6 := desk_start (desk_acts hD) #[.int .i64 0, .int .i64 0]
  have hR6 := RpAt.new (w.setCell ⟨g, 18, none⟩ (.int .i64 ((ac : Int) + 1))) 0 0
  have hT6 : Tn g w ((w.setCell ⟨g, 18, none⟩ (.int .i64 ((ac : Int) + 1))).alloc (.cells #[.int .i64 0, .int .i64 0] 29)) := (Tn.of_one hr6).trans (Tn.of_below ((Below.refl _ _).alloc (Nat.le_refl _) _))
  have hL6 := hL.below (hT6.below hgB hL.size)
  dsimp only at hsz6 hD6
  rw [hsz6] at hD6 hR6
  have hc18 : w.cell? ⟨g, 18, none⟩ = some (.int .i64 ac) := by
    obtain ⟨A, c, B, cB, K0, v2, v3, v4, v5, v6, v7, v8, v9, v10, v11, v12, v13, v14, v15, hv, hb, -⟩ := hD.at_
    exact hb.cell 18
  have hf18 : w.frozen? ⟨g, 18, none⟩ = false := by
    obtain ⟨A, c, B, cB, K0, v2, v3, v4, v5, v6, v7, v8, v9, v10, v11, v12, v13, v14, v15, hv, hb, -⟩ := hD.at_
    exact hb.frozen 18
  have hi6 : (ac : Int) < 250 := by omega
  have d250 : decide (250 <= (ac : Int)) = false := by simp; omega
  clear hD hr6 hL hsz6
  obtain ⟨W6, hW6⟩ : ∃ W6, W6 = (w.setCell ⟨g, 18, none⟩ (.int .i64 ((ac : Int) + 1))).alloc (.cells #[.int .i64 0, .int .i64 0] 29) := ⟨_, rfl⟩
  rw [<- hW6] at hD6 hT6 hL6 hR6
  go_enter Tryz.func11, Tryz.ntmps11
  go_wp2_with fail
  rw [<- hW6]
  clear hW6 hc18 hf18 d250
  refine (parse_any Bt s W6 hL6 hs).mono ?_
  rintro e w7 ⟨rfl, hb7⟩
  rw [hp]
  have hO8 := OrdAt.new w7 ⟨12, oa, ob, oc⟩
  have hb8 := hb7.trans ((Below.refl W6.heap.size w7).alloc hb7.size (.cells (ordA ⟨12, oa, ob, oc⟩) 41))
  have hDq := hD6.below hb8
  have hTq := hT6.after hb8 hT6.size
  have hRq := hR6.below hb8 hR6.lt
  have hkO : w.heap.size < w7.heap.size := Nat.lt_of_lt_of_le hR6.lt hb7.size
  simp only [ordA] at hO8 hDq hTq hRq
  simp only [oOf, eOf, Option.getD_some, Option.isSome_some, if_true, ordA]
  obtain ⟨k, hk⟩ : ∃ k, w.heap.size = k := ⟨_, rfl⟩
  rw [hk] at hRq hDq hkO
  rw [hk]
  obtain ⟨kO, hkO2⟩ : ∃ kO, w7.heap.size = kO := ⟨_, rfl⟩
  rw [hkO2] at hO8 hkO
  clear hD6 hT6 hL6 hR6 hb8 hp hi6
  go_upto_region 10 with (fail)
  try rw [hkO2]
  obtain ⟨wq, hwq⟩ : ∃ wq, wq = w7.alloc (.cells #[.int .i64 12, .int .i64 oa, .int .i64 ob, .int .i64 oc] 41) := ⟨_, rfl⟩
  rw [<- hwq] at hO8 hDq hTq hRq
  rw [<- hwq]
  clear hwq hb7 hkO2
  have hOA := OrdAt.lt (o := ⟨12, oa, ob, oc⟩) hO8
  obtain ⟨f0, f1, f2, f3, e0, e1, e2, e3⟩ := OrdAt.facts (o := ⟨12, oa, ob, oc⟩) hO8
  dsimp only at e0 e1 e2 e3
  clear f0 f1 f2 f3
  subst hq
  obtain ⟨A, c, B, cB, K0, v2, v3, v4, v5, v6, v7, v8, v9, v10, v11, v12, v13, v14, v15, hv, hb, hrA, hrB, hK⟩ := hDq.at_
  dsimp only at hv hb hrA hrB hK
  have hc17 : wq.cell? ⟨g, 17, none⟩ = some (.pointer K0) := hb.cell 17
  obtain ⟨k2, rfl, hn2, A2, c2, B2, cB2, y2, y3, y4, y5, y6, y7, y8, y9, y10, y11, y12, y13, y14, y15, hv2, hb2, hrA2, hrB2⟩ := hK
  have hones := all_snoc16 (x := .slice B2 (thP q).length cB2) (port_ones hv2) rfl
  clear hv hrA hrB
  go_upto_region 25 with (first
    | (refine wpList_load_state rfl rfl ?hx hb2 rfl ?_; (case hx => first | rfl | (simp [aE, aP]; done)))
    | (refine wpList_store_now rfl rfl (by first | rfl | simp [aE, aP]) (by first | rfl | simp [aE, aP]) hb hones ?_; intro w3 h3 hr3))
  have hs : ∀ b, b < wq.heap.size -> ¬ GR G k b -> w3.heap[b]? = wq.heap[b]? := fun b _ hn => hr3.block b fun e => hn (.inl (by rw [e]; exact hown))
  have hD3 : DeskAt w3 (GR G k) g ⟨q, none, ac + 1⟩ -> DeskAt (w3.setCell ⟨g, 17, none⟩ (.pointer none)) (GR G k) g ⟨q, none, ac + 1⟩ := fun h => desk_drop h
  have hDX : DeskAt w3 (GR G k) g ⟨q, some q, ac + 1⟩ := ⟨.inl hown, fun b hb => Nat.lt_of_lt_of_le (hDq.all b hb) (Nat.le_of_eq hr3.size.symm), A2, c2, B2, cB2, _, y2, y3, y4, y5, y6, y7, y8, y9, y10, y11, y12, y13, y14, y15, hv2, h3, hrA2.same hs, hrB2.same hs, ⟨k2, rfl, hn2, A2, c2, B2, cB2, y2, y3, y4, y5, y6, y7, y8, y9, y10, y11, y12, y13, y14, y15, hv2, (hs k2 (StBox.lt hb2) hn2).trans hb2, hrA2.same hs, hrB2.same hs⟩⟩
  have hD9 := desk_drop hDX
  have hc173 : w3.cell? ⟨g, 17, none⟩ = _ := h3.cell 17
  have hf173 := h3.frozen 17
  have hT3 := (hTq.trans (Tn.of_one hr3)).trans (Tn.of_one (OneRow.of_cell w3 ⟨g, 17, none⟩ (.pointer none)))
  have hR3 : RpAt _ k 0 0 := ((OneRow.of_cell w3 ⟨g, 17, none⟩ (.pointer none)).block k (by show k ≠ g; omega)).trans ((hr3.block k (by omega)).trans hRq)
  dsimp only at hD9
  clear hDq hTq hRq hb hb2 hrA2 hrB2 hv2 hs hD3 hDX h3 hr3 hc17 hones e0 e1 e2 e3 hO8 hOA
  have hDq := hD9
  have hTq := hT3
  have hRq := hR3
  clear hD9 hT3 hR3
  go_wp2_with fail
  refine (no_ans 0 _).mono ?_
  rintro e w9 ⟨rfl, hb9⟩
  have hD9 := DeskAt.below hDq hb9
  have hT9 := hTq.after hb9 hTq.size
  have hR9 := RpAt.below hRq hb9 (RpAt.lt hRq)
  have c0 := hR9.cell0
  have c1 := hR9.cell1
  have f0 := hR9.frozen 0
  have f1 := hR9.frozen 1
  clear hDq hTq hRq hb9
  have HE := hd_ (tell_end (a := 0) (b := 0) (c := 0) (m := 0) hD9 hall hown hT9 hk)
  have HR := hd_ hR9
  clear hD9 hT9 hR9
  go_wp2_with fail
  refine bodyPost_ret (ans_end rfl rfl HR.out) rfl ?_
  exact HE.out
set_option maxRecDepth 100000 in
theorem tell_ask (Bt : Nat) (G : Nat -> Prop) (g : Nat) (p : Port) (was : Option Port) (ac : Nat) (s : ByteArray) (w : World) (hD : DeskAt w G g ⟨p, was, ac⟩) (hL : LineAt Bt w) (hgB : Bt <= g) (hs : s.size <= maxLen) (h250 : ac < 250) {oa ob oc : Int} (hp : parseL s.data.toList = some ⟨14, oa, ob, oc⟩) (hg : PGood p) (hn : i64 oa) {CC NN : Int} (HCC : Hid ((askL p oa).1 = CC)) (HNN : Hid ((askL p oa).2 = NN)) :
    Calls Tryz.prog 11 #[.pointer (some ⟨g, 0, none⟩), .string s] w (RetD G g (.agg #[.int .i64 (CC), .int .i64 (NN)]) ⟨p, was, ac + 1⟩ w) := by
  have hgl := hD.lt
  have hall := hD.all
  have hown := hD.own
  have hr6 := OneRow.of_cell w ⟨g, 18, none⟩ (.int .i64 ((ac : Int) + 1))
  have hsz6 := hr6.size
  have hD6 := desk_start (desk_acts hD) #[.int .i64 0, .int .i64 0]
  have hR6 := RpAt.new (w.setCell ⟨g, 18, none⟩ (.int .i64 ((ac : Int) + 1))) 0 0
  have hT6 : Tn g w ((w.setCell ⟨g, 18, none⟩ (.int .i64 ((ac : Int) + 1))).alloc (.cells #[.int .i64 0, .int .i64 0] 29)) := (Tn.of_one hr6).trans (Tn.of_below ((Below.refl _ _).alloc (Nat.le_refl _) _))
  have hL6 := hL.below (hT6.below hgB hL.size)
  dsimp only at hsz6 hD6
  rw [hsz6] at hD6 hR6
  have hc18 : w.cell? ⟨g, 18, none⟩ = some (.int .i64 ac) := by
    obtain ⟨A, c, B, cB, K0, v2, v3, v4, v5, v6, v7, v8, v9, v10, v11, v12, v13, v14, v15, hv, hb, -⟩ := hD.at_
    exact hb.cell 18
  have hf18 : w.frozen? ⟨g, 18, none⟩ = false := by
    obtain ⟨A, c, B, cB, K0, v2, v3, v4, v5, v6, v7, v8, v9, v10, v11, v12, v13, v14, v15, hv, hb, -⟩ := hD.at_
    exact hb.frozen 18
  have hi6 : (ac : Int) < 250 := by omega
  have d250 : decide (250 <= (ac : Int)) = false := by simp; omega
  clear hD hr6 hL hsz6
  obtain ⟨W6, hW6⟩ : ∃ W6, W6 = (w.setCell ⟨g, 18, none⟩ (.int .i64 ((ac : Int) + 1))).alloc (.cells #[.int .i64 0, .int .i64 0] 29) := ⟨_, rfl⟩
  rw [<- hW6] at hD6 hT6 hL6 hR6
  go_enter Tryz.func11, Tryz.ntmps11
  go_wp2_with fail
  rw [<- hW6]
  clear hW6 hc18 hf18 d250
  refine (parse_any Bt s W6 hL6 hs).mono ?_
  rintro e w7 ⟨rfl, hb7⟩
  rw [hp]
  have hO8 := OrdAt.new w7 ⟨14, oa, ob, oc⟩
  have hb8 := hb7.trans ((Below.refl W6.heap.size w7).alloc hb7.size (.cells (ordA ⟨14, oa, ob, oc⟩) 41))
  have hDq := hD6.below hb8
  have hTq := hT6.after hb8 hT6.size
  have hRq := hR6.below hb8 hR6.lt
  have hkO : w.heap.size < w7.heap.size := Nat.lt_of_lt_of_le hR6.lt hb7.size
  simp only [ordA] at hO8 hDq hTq hRq
  simp only [oOf, eOf, Option.getD_some, Option.isSome_some, if_true, ordA]
  obtain ⟨k, hk⟩ : ∃ k, w.heap.size = k := ⟨_, rfl⟩
  rw [hk] at hRq hDq hkO
  rw [hk]
  obtain ⟨kO, hkO2⟩ : ∃ kO, w7.heap.size = kO := ⟨_, rfl⟩
  rw [hkO2] at hO8 hkO
  clear hD6 hT6 hL6 hR6 hb8 hp hi6
  go_upto_region 10 with (fail)
  try rw [hkO2]
  obtain ⟨wq, hwq⟩ : ∃ wq, wq = w7.alloc (.cells #[.int .i64 14, .int .i64 oa, .int .i64 ob, .int .i64 oc] 41) := ⟨_, rfl⟩
  rw [<- hwq] at hO8 hDq hTq hRq
  rw [<- hwq]
  clear hwq hb7 hkO2
  have hOA := OrdAt.lt (o := ⟨14, oa, ob, oc⟩) hO8
  obtain ⟨f0, f1, f2, f3, e0, e1, e2, e3⟩ := OrdAt.facts (o := ⟨14, oa, ob, oc⟩) hO8
  dsimp only at e0 e1 e2 e3
  clear f0 f1 f2 f3
  have hA := ask_any (GR G k) g ⟨p, was, ac + 1⟩ oa wq hDq hg hn
  dsimp only at hA
  rw [HCC.out, HNN.out] at hA
  clear HCC HNN
  have hA := hA
  try simp only [ordA] at hA
  have HA := hd_ hA
  have HE0 := hd_ True.intro
  clear hA
  go_wp2_with fail
  refine HA.out.mono ?_
  rintro e w9 ⟨rfl, hb9⟩
  have hD9 := DeskAt.below hDq hb9
  have hT9 := hTq.after hb9 hTq.size
  have hR9 := RpAt.below hRq hb9 (RpAt.lt hRq)
  have c0 := hR9.cell0
  have c1 := hR9.cell1
  have f0 := hR9.frozen 0
  have f1 := hR9.frozen 1
  clear hDq hTq hRq hb9 HA e0 e1 e2 e3 hO8 hOA
  have HE := hd_ (tell_end (a := 0) (b := 0) (c := CC) (m := NN) hD9 hall hown hT9 hk)
  have HR := hd_ hR9
  clear hD9 hT9 hR9
  go_wp2_with fail
  refine bodyPost_ret (ans_end rfl rfl HR.out) rfl ?_
  exact HE.out
set_option maxRecDepth 100000 in
theorem tell_guess (Bt : Nat) (G : Nat -> Prop) (g : Nat) (p : Port) (was : Option Port) (ac : Nat) (s : ByteArray) (w : World) (hD : DeskAt w G g ⟨p, was, ac⟩) (hL : LineAt Bt w) (hgB : Bt <= g) (hs : s.size <= maxLen) (h250 : ac < 250) {oa ob oc : Int} (hp : parseL s.data.toList = some ⟨13, oa, ob, oc⟩) (hg : PGood p) {CC NN : Int} (HCC : Hid ((tellL p ⟨1, oa, ob, oc⟩).2.2 = CC)) (HNN : Hid ((if (tellL p ⟨1, oa, ob, oc⟩).2.2 ≠ 0 then 0 else (thP (tellL p ⟨1, oa, ob, oc⟩).1).getD (tellL p ⟨1, oa, ob, oc⟩).2.1.toNat (-1)) = NN)) :
    Calls Tryz.prog 11 #[.pointer (some ⟨g, 0, none⟩), .string s] w (RetD G g (.agg #[.int .i64 (CC), .int .i64 (NN)]) ⟨p, was, ac + 1⟩ w) := by
  have hgl := hD.lt
  have hall := hD.all
  have hown := hD.own
  have hr6 := OneRow.of_cell w ⟨g, 18, none⟩ (.int .i64 ((ac : Int) + 1))
  have hsz6 := hr6.size
  have hD6 := desk_start (desk_acts hD) #[.int .i64 0, .int .i64 0]
  have hR6 := RpAt.new (w.setCell ⟨g, 18, none⟩ (.int .i64 ((ac : Int) + 1))) 0 0
  have hT6 : Tn g w ((w.setCell ⟨g, 18, none⟩ (.int .i64 ((ac : Int) + 1))).alloc (.cells #[.int .i64 0, .int .i64 0] 29)) := (Tn.of_one hr6).trans (Tn.of_below ((Below.refl _ _).alloc (Nat.le_refl _) _))
  have hL6 := hL.below (hT6.below hgB hL.size)
  dsimp only at hsz6 hD6
  rw [hsz6] at hD6 hR6
  have hc18 : w.cell? ⟨g, 18, none⟩ = some (.int .i64 ac) := by
    obtain ⟨A, c, B, cB, K0, v2, v3, v4, v5, v6, v7, v8, v9, v10, v11, v12, v13, v14, v15, hv, hb, -⟩ := hD.at_
    exact hb.cell 18
  have hf18 : w.frozen? ⟨g, 18, none⟩ = false := by
    obtain ⟨A, c, B, cB, K0, v2, v3, v4, v5, v6, v7, v8, v9, v10, v11, v12, v13, v14, v15, hv, hb, -⟩ := hD.at_
    exact hb.frozen 18
  have hi6 : (ac : Int) < 250 := by omega
  have d250 : decide (250 <= (ac : Int)) = false := by simp; omega
  clear hD hr6 hL hsz6
  obtain ⟨W6, hW6⟩ : ∃ W6, W6 = (w.setCell ⟨g, 18, none⟩ (.int .i64 ((ac : Int) + 1))).alloc (.cells #[.int .i64 0, .int .i64 0] 29) := ⟨_, rfl⟩
  rw [<- hW6] at hD6 hT6 hL6 hR6
  go_enter Tryz.func11, Tryz.ntmps11
  go_wp2_with fail
  rw [<- hW6]
  clear hW6 hc18 hf18 d250
  refine (parse_any Bt s W6 hL6 hs).mono ?_
  rintro e w7 ⟨rfl, hb7⟩
  rw [hp]
  have hO8 := OrdAt.new w7 ⟨13, oa, ob, oc⟩
  have hb8 := hb7.trans ((Below.refl W6.heap.size w7).alloc hb7.size (.cells (ordA ⟨13, oa, ob, oc⟩) 41))
  have hDq := hD6.below hb8
  have hTq := hT6.after hb8 hT6.size
  have hRq := hR6.below hb8 hR6.lt
  have hkO : w.heap.size < w7.heap.size := Nat.lt_of_lt_of_le hR6.lt hb7.size
  simp only [ordA] at hO8 hDq hTq hRq
  simp only [oOf, eOf, Option.getD_some, Option.isSome_some, if_true, ordA]
  obtain ⟨k, hk⟩ : ∃ k, w.heap.size = k := ⟨_, rfl⟩
  rw [hk] at hRq hDq hkO
  rw [hk]
  obtain ⟨kO, hkO2⟩ : ∃ kO, w7.heap.size = kO := ⟨_, rfl⟩
  rw [hkO2] at hO8 hkO
  clear hD6 hT6 hL6 hR6 hb8 hp hi6
  go_upto_region 10 with (fail)
  try rw [hkO2]
  obtain ⟨wq, hwq⟩ : ∃ wq, wq = w7.alloc (.cells #[.int .i64 13, .int .i64 oa, .int .i64 ob, .int .i64 oc] 41) := ⟨_, rfl⟩
  rw [<- hwq] at hO8 hDq hTq hRq
  rw [<- hwq]
  clear hwq hb7 hkO2
  have hOA := OrdAt.lt (o := ⟨13, oa, ob, oc⟩) hO8
  obtain ⟨f0, f1, f2, f3, e0, e1, e2, e3⟩ := OrdAt.facts (o := ⟨13, oa, ob, oc⟩) hO8
  dsimp only at e0 e1 e2 e3
  clear f0 f1 f2 f3
  have hA := guess_any (GR G k) g ⟨p, was, ac + 1⟩ ⟨13, oa, ob, oc⟩ wq hDq hg
  dsimp only at hA
  rw [HNN.out, HCC.out] at hA
  clear HCC HNN
  have hA := hA
  try simp only [ordA] at hA
  have HA := hd_ hA
  have HE0 := hd_ True.intro
  clear hA
  go_wp2_with fail
  refine HA.out.mono ?_
  rintro e w9 ⟨rfl, hb9⟩
  have hD9 := DeskAt.below hDq hb9
  have hT9 := hTq.after hb9 hTq.size
  have hR9 := RpAt.below hRq hb9 (RpAt.lt hRq)
  have c0 := hR9.cell0
  have c1 := hR9.cell1
  have f0 := hR9.frozen 0
  have f1 := hR9.frozen 1
  clear hDq hTq hRq hb9 HA e0 e1 e2 e3 hO8 hOA
  have HE := hd_ (tell_end (a := 0) (b := 0) (c := CC) (m := NN) hD9 hall hown hT9 hk)
  have HR := hd_ hR9
  clear hD9 hT9 hR9
  go_wp2_with fail
  refine bodyPost_ret (ans_end rfl rfl HR.out) rfl ?_
  exact HE.out
end Go.Proofs.YtifmdkcpbajdcabGreatDoor
