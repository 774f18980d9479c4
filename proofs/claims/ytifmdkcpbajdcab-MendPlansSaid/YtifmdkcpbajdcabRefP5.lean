/- Walks: the document's answers: who waits, ranked. -/
import Derived.Test.YtifmdkcpbajdcabRefP4
import Derived.Test.YtifmdkcpbajdcabSeen
namespace Go.Proofs.Ytifmdkcpbajdcab
open Go.RowKit Go.Proofs Plain

/-- One that waits and is not placed. -/
def Left (p : Port) (out : List Nat) (j : Nat) : Prop := j < p.ships.length ∧ (p.ship j).state = 1 ∧ j ∉ out
/-- The best of those ahead of i. -/
def Best (p : Port) (out : List Nat) (i : Nat) (b : Int) : Prop :=
  (b = -1 ∧ ∀ j, j < i → ¬ Left p out j) ∨ ∃ jb : Nat, b = jb ∧ jb < i ∧ Left p out jb ∧ ∀ j, j < i → Left p out j → key (p.ship jb) ≤ key (p.ship j)

theorem best_start (p : Port) (out : List Nat) : Best p out 0 (-1) := .inl ⟨rfl, fun j hj => absurd hj (by omega)⟩
theorem best_skip {p : Port} {out : List Nat} {i : Nat} {b : Int} (h : Best p out i b) (hn : ¬ Left p out i) : Best p out (i + 1) b := by
  rcases h with ⟨rfl, h⟩ | ⟨jb, rfl, h1, h2, h3⟩
  · exact .inl ⟨rfl, fun j hj => by rcases (by omega : j < i ∨ j = i) with g | rfl; exact h j g; exact hn⟩
  · exact .inr ⟨jb, rfl, by omega, h2, fun j hj hl => by rcases (by omega : j < i ∨ j = i) with g | rfl; exact h3 j g hl; exact absurd hl hn⟩
theorem best_keep {p : Port} {out : List Nat} {i jb : Nat} (h : Best p out i jb) (hk : key (p.ship jb) ≤ key (p.ship i)) : Best p out (i + 1) jb := by
  rcases h with ⟨e, h⟩ | ⟨j', e, h1, h2, h3⟩
  · omega
  · have : j' = jb := by omega
    subst this
    exact .inr ⟨j', rfl, by omega, h2, fun j hj hl => by rcases (by omega : j < i ∨ j = i) with g | rfl; exact h3 j g hl; exact hk⟩
theorem best_take {p : Port} {out : List Nat} {i : Nat} {b : Int} (h : Best p out i b) (hl : Left p out i) (hk : b = -1 ∨ ∃ jb : Nat, b = jb ∧ key (p.ship i) ≤ key (p.ship jb)) : Best p out (i + 1) (i : Int) := by
  refine .inr ⟨i, rfl, by omega, hl, fun j hj hl' => ?_⟩
  rcases (by omega : j < i ∨ j = i) with g | rfl
  · rcases h with ⟨e, h⟩ | ⟨j', e, h1, h2, h3⟩
    · exact absurd hl' (h j g)
    · rcases hk with e' | ⟨jb, e', hk⟩
      · omega
      · have : j' = jb := by omega
        subst this
        exact Int.le_trans hk (h3 j g hl')
  · exact Int.le_refl _

theorem rank_pick {p : Port} {r : List Nat} (hr : IsRank p r) {m jb : Nat} (hl : Left p (r.take m) jb) (hmin : ∀ j, j < p.ships.length → Left p (r.take m) j → key (p.ship jb) ≤ key (p.ship j)) : r.take (m + 1) = r.take m ++ [jb] := by
  have hm : jb ∈ r := (hr.mem jb).2 ⟨hl.1, hl.2.1⟩
  have hd : jb ∈ r.drop m := by
    rw [← List.take_append_drop m r] at hm
    rcases List.mem_append.1 hm with h | h
    · exact absurd h hl.2.2
    · exact h
  have hlt : m < r.length := by
    rcases Nat.lt_or_ge m r.length with h | h
    · exact h
    · rw [List.drop_eq_nil_of_le h] at hd; cases hd
  rw [List.take_add_one, List.getElem?_eq_getElem hlt, Option.toList_some]
  congr 2
  rw [List.drop_eq_getElem_cons hlt] at hd
  rcases List.mem_cons.1 hd with e | hd
  · exact e.symm
  · have hs := hr.sorted
    rw [← List.take_append_drop m r, List.drop_eq_getElem_cons hlt] at hs
    have hs2 := (List.pairwise_append.1 hs)
    have h1 := (List.pairwise_cons.1 hs2.2.1).1 jb hd
    have hin := (hr.mem r[m]).1 (List.getElem_mem hlt)
    have hno : r[m] ∉ r.take m := fun h => by
      have := hs2.2.2 _ h _ (List.mem_cons_self ..)
      omega
    have := hmin r[m] hin.1 ⟨hin.1, hin.2, hno⟩
    omega

theorem rank_done {p : Port} {r : List Nat} (hr : IsRank p r) {m : Nat} (h : ∀ j, j < p.ships.length → ¬ Left p (r.take m) j) : r.take m = r := by
  rcases Nat.lt_or_ge m r.length with hlt | hge
  · exfalso
    have hin := (hr.mem r[m]).1 (List.getElem_mem hlt)
    refine h r[m] hin.1 ⟨hin.1, hin.2, fun hm => ?_⟩
    have hs := hr.sorted
    rw [← List.take_append_drop m r, List.drop_eq_getElem_cons hlt] at hs
    have := (List.pairwise_append.1 hs).2.2 _ hm _ (List.mem_cons_self ..)
    omega
  · exact List.take_of_length_le hge

theorem key_lt {p : Port} (h : Plain.Fair p) {i j : Nat} (hi : i < p.ships.length) (hj : j < p.ships.length) :
    ((p.ship i).cls < (p.ship j).cls ∨ ((p.ship i).cls = (p.ship j).cls ∧ (p.ship i).queued < (p.ship j).queued)) ↔ key (p.ship i) < key (p.ship j) := by
  obtain ⟨s1, q1⟩ := h.ship i hi
  obtain ⟨s2, q2⟩ := h.ship j hj
  have c1 := s1.cls; have c2 := s2.cls; have d1 := s1.queued; have d2 := s2.queued
  have := h.next
  unfold key
  omega

theorem mem_natsI (l : List Nat) (k : Nat) : ((k : Int) ∈ natsI l) ↔ k ∈ l := by
  unfold natsI
  simp only [List.mem_map]
  constructor
  · rintro ⟨a, ha, e⟩; have : a = k := by omega
    subst this; exact ha
  · intro h; exact ⟨k, h, rfl⟩

theorem Seen.perm {w : World} {b n : Nat} {l m : List Int} (h : Seen w b n l) (e : ∀ q, q ∈ l ↔ q ∈ m) : Seen w b n m := by
  obtain ⟨D, a, c, d⟩ := h
  exact ⟨D, a, c, fun q => by rw [d q]; simp [e q]⟩

theorem seen_more {w : World} {b n : Nat} {l : List Int} (h : Seen w b n l) : Seen w b (n + 1) l := by
  obtain ⟨D, ⟨es, clock, h1, h2, h3, h4⟩, c, d⟩ := h
  exact ⟨D, ⟨es, clock, h1, h2, by omega, h4⟩, c, d⟩
theorem Seen.grown {w w' : World} {b n : Nat} {l : List Int} {row : Option Nat} (h : Seen w b n l) (hg : w.grownBy w' row) (hne : some b ≠ row) : Seen w' b n l := by
  obtain ⟨D, a, c, d⟩ := h
  exact ⟨D, a.kept hg hne, c, d⟩
theorem PortAt.grown {w w' : World} {g c : Nat} {p : Port} {A : Option Addr} {row : Option Nat} (h : PortAt w g p A c) (hg : w.grownBy w' row) (hne : some g ≠ row) : PortAt w' g p A c := (hg.block g h.lt hne).trans h
theorem own_grow2 {w w' : World} {base size n : Nat} {T : TypeId} {v : Value} {xs : List Value} {row : Option Nat} (h : w.ownsRow base T size v n xs) (hg : w.grownBy w' row) (hne : ∀ x, v.ownBlock = some x → some x ≠ row) : w'.ownsRow base T size v n xs := by
  refine ⟨h.1, ?_⟩
  rcases h.2 with hn | ⟨b, cap, cur, hv, hb, hh, rest⟩
  · exact .inl hn
  · exact .inr ⟨b, cap, cur, hv, hb, (hg.block b (Array.getElem?_eq_some_iff.1 hh).1 (hne b (by rw [hv]; rfl))).trans hh, rest⟩
theorem own_ne {w : World} {base e size n k : Nat} {v : Value} {xs : List Value} (h : w.ownsRow base e size v n xs) (hk : k < base) : some k ≠ v.ownBlock := fun e => by have := own_block h k e.symm; omega

set_option maxRecDepth 100000 in
set_option maxHeartbeats 40000000 in
theorem rankedOf_any (p : Port) (A : Option Addr) (c : Nat) (w : World) (hf : Plain.Fair p) (r : List Nat) (hrk : IsRank p r) (hrl : r.length ≤ p.ships.length) (hin : InP w p A) :
    Calls Try.prog 19 #[.agg (portA p A c)] w (RetInts (natsI r) w) := by
  have hlen := hf.len
  have HF := Lib.hid hf
  have HRK := Lib.hid hrk
  have hmm := run_makeMap (P := Try.prog) 51
  clear hf hrk
  have hP0 : PortAt ((w.alloc (.cells (portA p A c) 27)).alloc (.map #[] 0)) w.heap.size p A c := (PortAt.new w p A c).alloc _
  have hS0 : Seen ((w.alloc (.cells (portA p A c) 27)).alloc (.map #[] 0)) (w.heap.size + 1) 0 [] := by
    have := Seen.made (w.alloc (.cells (portA p A c) 27)); simpa using this
  have hB0 : Below w.heap.size w ((w.alloc (.cells (portA p A c) 27)).alloc (.map #[] 0)) := ((Below.refl _ _).alloc (Nat.le_refl _) _).alloc (by simp) _
  have q1 := hP0.ships
  simp only [portA] at hP0 hS0 hB0 q1 ⊢
  go_enter Try.func19, Try.ntmps19
  go_wp2_with fail
  go_loopw [3, 12] (fun x3 i wr => ∃ (t : Nat) (L : Option Addr) (cL : Nat), t ≤ p.ships.length ∧ i = .int .i64 t ∧ x3 = .slice L (natsI (r.take t)).length cL ∧ OwnI wr (w.heap.size + 2) (.slice L (natsI (r.take t)).length cL) (natsI (r.take t)) ∧
    Seen wr (w.heap.size + 1) t (natsI (r.take t)) ∧ PortAt wr w.heap.size p A c ∧ Below w.heap.size w wr) (fun _ i _ => p.ships.length - (intOf i).toNat)
  case atStart => exact ⟨0, none, 0, Nat.zero_le _, rfl, rfl, OwnI.nil _ _, hS0, hP0, hB0⟩
  case round =>
    clear hP0 hS0 hB0 hmm q1
    obtain ⟨t, L, cL, ht, rfl, rfl, hO, hS, hP, hB⟩ := hrel
    have q1 := hP.ships
    have q3 := hP.lt
    have q4 := hS.lt
    by_cases hlt : t < p.ships.length
    · have HPICK := Lib.hid (fun jb hl hmin => @rank_pick p r HRK.out t jb hl hmin)
      have HDONE := Lib.hid (fun h => @rank_done p r HRK.out t h)
      have HNXT := Lib.hid (show r.take t = r → r.take (t + 1) = r.take t from fun h => by
        have : r.length ≤ t := by
          have := congrArg List.length h
          rw [List.length_take] at this; omega
        rw [List.take_of_length_le (by omega), h])
      have hol : (r.take t).length ≤ 14 := by rw [List.length_take]; omega
      generalize r.take t = out at *
      go_wp2_with fail
      go_loopw [5, 17] (fun b i wr => ∃ (k : Nat) (bi : Int), k ≤ p.ships.length ∧ i = .int .i64 k ∧ b = .int .i64 bi ∧ Best p out k bi ∧ OwnI wr (w.heap.size + 2) (.slice L (natsI out).length cL) (natsI out) ∧
        Seen wr (w.heap.size + 1) t (natsI out) ∧ PortAt wr w.heap.size p A c ∧ Below w.heap.size w wr) (fun _ i _ => p.ships.length - (intOf i).toNat)
      case atStart => exact ⟨0, -1, Nat.zero_le _, rfl, rfl, best_start _ _, hO, hS, hP, hB⟩
      case round =>
        clear hO hS hP hB q1 q3 q4
        obtain ⟨k, bi, hk, rfl, rfl, hb, hO, hS, hP, hB⟩ := hrel
        have q1 := hP.ships
        have q3 := hP.lt
        have q4 := hS.lt
        have HO := Lib.hid hO
        have HS := Lib.hid hS
        have HP := Lib.hid hP
        have HBE := Lib.hid hb
        by_cases hkl : k < p.ships.length
        · obtain ⟨b, off, hA, hbl, hcells⟩ := ships_at (Sl.below hin hB) (by omega)
          subst hA
          obtain ⟨d1, d2, d3, d4, d5, d6⟩ := hcells k hkl
          have HC := Lib.hid hcells
          have HLE := Lib.hid (show Left p out k ↔ (p.ship k).state = 1 ∧ k ∉ out from ⟨fun h => h.2, fun h => ⟨hkl, h⟩⟩)
          have HKL := Lib.hid (fun jb (hj : jb < p.ships.length) => key_lt HF.out hkl hj)
          clear hcells hO hS hb
          change wr.cell? _ = some (.int .i64 (p.ship k).state) at d1
          change wr.cell? _ = some (.int .i64 (p.ship k).wide) at d2
          change wr.cell? _ = some (.int .i64 (p.ship k).long) at d3
          change wr.cell? _ = some (.int .i64 (p.ship k).cls) at d4
          change wr.cell? _ = some (.int .i64 (p.ship k).since) at d5
          change wr.cell? _ = some (.int .i64 (p.ship k).queued) at d6
          have hg : ∀ m : Nat, OwnI ((wr.alloc (.cells (shipV (p.ship k)) 38)).drewN m) (w.heap.size + 2) (.slice L (natsI out).length cL) (natsI out) ∧ Seen ((wr.alloc (.cells (shipV (p.ship k)) 38)).drewN m) (w.heap.size + 1) t (natsI out) ∧
              PortAt ((wr.alloc (.cells (shipV (p.ship k)) 38)).drewN m) w.heap.size p (some ⟨b, off, none⟩) c ∧ Below w.heap.size w ((wr.alloc (.cells (shipV (p.ship k)) 38)).drewN m) := fun m =>
            ⟨HO.out.alloc _, (HS.out.alloc _).drewN m, (HP.out.alloc _).drewN m, below_drewN (hB.alloc hB.size _) m⟩
          simp only [shipV] at hg
          have HG := Lib.hid hg
          clear hg
          by_cases e1 : (p.ship k).state = 1
          · by_cases e2 : k ∈ out
            · have HM := Lib.hid (show decide ((k : Int) ∈ natsI out) = true by simpa using (mem_natsI out k).2 e2)
              have HB2 := Lib.hid (best_skip HBE.out (fun h => h.2.2 e2))
              have hrun := (HS.out.alloc (.cells (shipV (p.ship k)) 38)).look (q := (k : Int)) (by unfold i64; omega)
              rw [HM.out] at hrun
              simp only [shipV] at hrun
              rw [e1] at d1 hrun HG
              clear e1 HKL
              go_wp2_with fail
              go_roundw
              case rel => exact ⟨k + 1, bi, by omega, by go_num, rfl, HB2.out, HG.out 0⟩
              case measure => simp [intOf] <;> omega
            · have HM := Lib.hid (show decide ((k : Int) ∈ natsI out) = false by simpa using fun h => e2 ((mem_natsI out k).1 h))
              have HLF := Lib.hid (HLE.out.2 ⟨e1, e2⟩)
              have hrun := (HS.out.alloc (.cells (shipV (p.ship k)) 38)).look (q := (k : Int)) (by unfold i64; omega)
              rw [HM.out] at hrun
              simp only [shipV] at hrun
              rw [e1] at d1 hrun HG
              clear e1 e2
              rcases HBE.out with ⟨hbi, hno⟩ | ⟨jb, hbi, hj1, hj2, hj3⟩
              · have HB2 := Lib.hid (best_take HBE.out HLF.out (.inl hbi))
                clear hno
                subst hbi
                go_wp2_with fail
                go_quiet (fail)
                go_wp2_with fail
                go_roundw
                case rel => exact ⟨k + 1, k, by omega, by go_num, rfl, HB2.out, HG.out _⟩
                case measure => simp [intOf] <;> omega
              · subst hbi
                have HBT := Lib.hid (fun h => best_take HBE.out HLF.out (.inr ⟨jb, rfl, h⟩))
                have HBK := Lib.hid (fun h => best_keep HBE.out h)
                have hjl : jb < p.ships.length := by omega
                have HKJ := Lib.hid (HKL.out jb hjl)
                obtain ⟨_, _, _, f4, _, f6⟩ := HC.out jb hjl
                change wr.cell? _ = some (.int .i64 (p.ship jb).cls) at f4
                change wr.cell? _ = some (.int .i64 (p.ship jb).queued) at f6
                clear hj2 hj3 HKL HLE
                have d0 : decide ((jb : Int) < 0) = false := by simp <;> omega
                generalize (p.ship jb).cls = jc at *
                generalize (p.ship jb).queued = jq at *
                obtain ⟨kc, hkc⟩ : ∃ x, (p.ship k).cls = x := ⟨_, rfl⟩
                obtain ⟨kq, hkq⟩ : ∃ x, (p.ship k).queued = x := ⟨_, rfl⟩
                rw [hkc] at d4 hrun HG HKJ
                rw [hkq] at d6 hrun HG HKJ
                clear hkc hkq
                by_cases g1 : kc < jc
                · have HB2 := Lib.hid (HBT.out (Int.le_of_lt (HKJ.out.1 (.inl g1))))
                  have t1 : decide (kc < jc) = true := by simpa using g1
                  clear HBT HBK HKJ
                  go_wp2_with fail
                  go_quiet (fail)
                  go_wp2_with fail
                  go_roundw
                  case rel => exact ⟨k + 1, k, by omega, by go_num, rfl, HB2.out, HG.out _⟩
                  case measure => simp [intOf] <;> omega
                · have t1 : decide (kc < jc) = false := by simpa using g1
                  by_cases g2 : kc = jc
                  · by_cases g3 : kq < jq
                    · have HB2 := Lib.hid (HBT.out (Int.le_of_lt (HKJ.out.1 (.inr ⟨g2, g3⟩))))
                      have t2 : (kc == jc) = true := by simpa using g2
                      have t3 : decide (kq < jq) = true := by simpa using g3
                      clear HBT HBK HKJ g2
                      go_wp2_with fail
                      go_quiet (fail)
                      go_wp2_with fail
                      go_roundw
                      case rel => exact ⟨k + 1, k, by omega, by go_num, rfl, HB2.out, HG.out _⟩
                      case measure => simp [intOf] <;> omega
                    · have HB2 := Lib.hid (HBK.out (by
                        rcases Int.lt_or_le (key (p.ship k)) (key (p.ship jb)) with h | h
                        · rcases HKJ.out.2 h with h | ⟨_, h⟩ <;> omega
                        · exact h))
                      have t2 : (kc == jc) = true := by simpa using g2
                      have t3 : decide (kq < jq) = false := by simpa using g3
                      clear HBT HBK HKJ g2
                      go_wp2_with fail
                      go_quiet (fail)
                      go_wp2_with fail
                      go_roundw
                      case rel => exact ⟨k + 1, jb, by omega, by go_num, rfl, HB2.out, HG.out _⟩
                      case measure => simp [intOf] <;> omega
                  · have HB2 := Lib.hid (HBK.out (by
                      rcases Int.lt_or_le (key (p.ship k)) (key (p.ship jb)) with h | h
                      · rcases HKJ.out.2 h with h | ⟨h, _⟩ <;> omega
                      · exact h))
                    obtain ⟨a1, a2, a3⟩ := ne_facts' g2
                    clear HBT HBK HKJ
                    go_wp2_with fail
                    go_quiet (fail)
                    go_wp2_with fail
                    go_roundw
                    case rel => exact ⟨k + 1, jb, by omega, by go_num, rfl, HB2.out, HG.out _⟩
                    case measure => simp [intOf] <;> omega
          · have HB2 := Lib.hid (best_skip HBE.out (fun h => e1 h.2.1))
            obtain ⟨a1, a2, a3⟩ := ne_facts' e1
            clear HKL
            go_wp2_with fail
            go_roundw
            case rel => exact ⟨k + 1, bi, by omega, by go_num, rfl, HB2.out, HG.out 0⟩
            case measure => simp [intOf] <;> omega
        · obtain rfl : k = p.ships.length := by omega
          rcases HBE.out with ⟨hbi, hno⟩ | ⟨jb, hbi, hj1, hj2, hj3⟩
          · have HN := Lib.hid (HNXT.out (HDONE.out (fun j hj => hno j hj)))
            clear hno hb
            subst hbi
            go_wp2_with fail
            go_roundw
            case rel => exact ⟨t + 1, L, cL, by omega, by go_num, by rw [HN.out], by rw [HN.out]; exact HO.out, by rw [HN.out]; exact seen_more HS.out, HP.out, hB⟩
            case measure => simp [intOf] <;> omega
          · have HN := Lib.hid (HPICK.out jb hj2 hj3)
            clear hb hj2 hj3
            subst hbi
            have d0 : decide ((jb : Int) ≥ 0) = true := by simp
            have hsz : w.heap.size + 2 ≤ wr.heap.size := q4
            have hqj : i64 (jb : Int) := by unfold i64; omega
            have hrow : ∀ x, (Value.slice L (natsI out).length cL).ownBlock = some x → w.heap.size + 2 ≤ x := fun x hx => own_block HO.out x hx
            have HROW := Lib.hid hrow
            clear hrow
            go_wp2_with (first
              | (at_mapUpdate; refine wpList_put_seen rfl rfl rfl rfl rfl HS.out (by omega) hqj ?_; intro w3 hS3 hg3; have hO3 := own_grow2 HO.out hg3 (fun x hx e => by have := HROW.out x hx; have e2 := Option.some.inj e; omega); have ho2 := World.ownsRow.alloc hO3 (.cells #[.int .i64 jb] 3); have hh := heap_alloc_new w3 (.cells #[.int .i64 jb] 3); have hs3 := hg3.size)
              | (at_builtin; refine wpList_append_int rfl _ _ rfl (w.heap.size + 2) _ _ rfl ho2 w3.heap.size 1 jb rfl hh (by rw [natsI_len]; omega) (by simp <;> omega) ?_; intro v' w' ho' hg'))
            have hP4 := ((HP.out.grown hg3 (by simp)).alloc (.cells #[.int .i64 jb] 3)).grown hg' (own_ne ho2 (by omega))
            have hS4 := ((hS3.alloc (.cells #[.int .i64 jb] 3)).grown hg' (own_ne ho2 (by omega))).perm (m := natsI (out ++ [jb])) (fun q => by rw [natsI_snoc]; simp [or_comm])
            have hB4 := grown_below ((hB.grown hg3 hB.size (fun x hx => by cases hx; omega)).alloc (Nat.le_trans hB.size hs3) (.cells #[.int .i64 jb] 3)) hg' ho2 (by omega) (by simp; have := hB.size; omega)
            rw [← natsI_snoc, ← HN.out] at ho'
            rw [← HN.out] at hS4
            obtain ⟨L', c', rfl⟩ := own_form ho'
            have HFIN := Lib.hid (And.intro ho' (And.intro hS4 (And.intro hP4 hB4)))
            go_roundw
            case rel => exact ⟨t + 1, L', c', by omega, by go_num, rfl, HFIN.out⟩
            case measure => simp [intOf] <;> omega
    · obtain rfl : t = p.ships.length := by omega
      have HE := Lib.hid (show r.take p.ships.length = r from List.take_of_length_le hrl)
      rw [HE.out] at hO ⊢
      go_wp2_with fail
      go_ret
      exact ⟨L, cL, rfl, Sl.of_own hO, hB, (fr_own hO).mono (by omega)⟩
end Go.Proofs.Ytifmdkcpbajdcab
