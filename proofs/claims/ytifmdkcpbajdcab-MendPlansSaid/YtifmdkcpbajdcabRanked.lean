/- Walks: the ships that wait, in order; a plan from the beginning. -/
import Derived.Test.YtifmdkcpbajdcabRankW
namespace Go.Proofs.Ytifmdkcpbajdcab
open Go.RowKit Go.Proofs Plain

theorem wpList_append_nat {ops : Array Oper} {rest : List Oper} {o : Oper} {a : Act} {w : World} {Q : Exit → Act → World → Prop} (hgd : o.guard = none) (s x : Operand) (ho : o.op = .call { callee := .builtin .append, args := #[s, x], argTypes := #[30, 30] })
    (base : Nat) (v : Value) (l : List Int) (hs : a.eval s = v) (hown : OwnI w base v l) (g c : Nat) (t : Int) (hx : a.eval x = .slice (some ⟨g, 0, none⟩) 1 c)
    (hg : w.heap[g]? = some (.cells #[.int .i64 t] 3 (0, 0))) (hl : l.length ≤ 100000) (hb : base ≤ w.heap.size)
    (h : ∀ v' w', OwnI w' base v' (l ++ [t]) → w.grownBy w' v.ownBlock → wpList Try.prog ops Q rest (a.put o.dst v') w') : wpList Try.prog ops Q (o :: rest) a w :=
  wpList_append_int hgd s x ho base v l hs hown g c t hx hg hl hb h

theorem natsI_snoc (r : List Nat) (k : Nat) : natsI (r ++ [k]) = natsI r ++ [(k : Int)] := by simp [natsI]

set_option maxRecDepth 100000 in
set_option maxHeartbeats 20000000 in
theorem ranked_any (p : Port) (A : Option Addr) (c : Nat) (w : World) (hg : PGood p) (hin : InP w p A) : RanksAt w p A c := by
  have hlen := hg.len
  have HG := Lib.hid hg
  clear hg
  unfold RanksAt
  simp only [portA]
  go_enter Try.func31, Try.ntmps31
  go_wp2_with fail
  have hP0 : PortAt (w.alloc (.cells (portA p A c) 27)) w.heap.size p A c := PortAt.new w p A c
  have hB0 : Below w.heap.size w (w.alloc (.cells (portA p A c) 27)) := (Below.refl _ _).alloc (Nat.le_refl _) _
  simp only [portA] at hP0 hB0
  go_loopw [9, 3] (fun i v wr => ∃ k : Nat, k ≤ p.ships.length ∧ i = .int .i64 k ∧ OwnI wr (w.heap.size + 1) v (natsI (waitsTo p k)) ∧ PortAt wr w.heap.size p A c ∧ Below w.heap.size w wr) (fun i _ _ => p.ships.length - (intOf i).toNat)
  case atStart => exact ⟨0, Nat.zero_le _, rfl, OwnI.nil _ _, hP0, hB0⟩
  case round =>
    clear hP0 hB0
    obtain ⟨k, hk, rfl, hown, hP, hB⟩ := hrel
    have q1 := hP.ships
    have hglt := hP.lt
    by_cases hlt : k < p.ships.length
    · obtain ⟨bs, offs, hA, hbl, hcells⟩ := ships_at (Sl.below hin hB) (by omega)
      subst hA
      obtain ⟨d1, d2, d3, d4, d5, d6⟩ := hcells k hlt
      clear hcells
      have HY := Lib.hid (@waits_yes p k)
      have HN := Lib.hid (@waits_no p k)
      have hwl := waits_len p k
      have hnl := natsI_len (waitsTo p k)
      change wr.cell? _ = some (.int .i64 (p.ship k).state) at d1
      change wr.cell? _ = some (.int .i64 (p.ship k).wide) at d2
      change wr.cell? _ = some (.int .i64 (p.ship k).long) at d3
      change wr.cell? _ = some (.int .i64 (p.ship k).cls) at d4
      change wr.cell? _ = some (.int .i64 (p.ship k).since) at d5
      change wr.cell? _ = some (.int .i64 (p.ship k).queued) at d6
      generalize p.ship k = x at *
      obtain ⟨sst, wd, lg, cl, si, qu⟩ := x
      dsimp only at *
      have ho := (hown.alloc (.cells (shipV ⟨sst, wd, lg, cl, si, qu⟩) 38))
      by_cases e1 : sst = 1
      · subst e1
        have HM := Lib.hid (HY.out rfl)
        clear HY HN
        have ho2 := ho.alloc (.cells #[.int .i64 k] 3)
        have hh : ((wr.alloc (.cells (shipV ⟨1, wd, lg, cl, si, qu⟩) 38)).alloc (.cells #[.int .i64 k] 3)).heap[wr.heap.size + 1]? = some (.cells #[.int .i64 k] 3 (0, 0)) := by
          have := heap_alloc_new (wr.alloc (.cells (shipV ⟨1, wd, lg, cl, si, qu⟩) 38)) (.cells #[.int .i64 k] 3)
          simpa using this
        simp only [shipV] at ho2 hh
        go_wp2_with (at_builtin; refine wpList_append_int rfl _ _ rfl (w.heap.size + 1) _ _ rfl ho2 (wr.heap.size + 1) 1 k rfl hh (by rw [hnl]; omega) (by simp; omega) ?_; intro v' w' ho' hg')
        go_roundw
        case rel =>
          refine ⟨k + 1, by omega, by go_num, by rw [HM.out, natsI_snoc]; exact ho', ?_, grown_below ((hB.alloc hB.size _).alloc (by simp; have := hB.size; omega) _) hg' ho2 (by omega) (by simp; have := hB.size; omega)⟩
          exact (hg'.block _ (by simp; omega) (fun e => by have := own_block ho2 _ e.symm; omega)).trans ((hP.alloc _).alloc _)
        case measure => simp [intOf] <;> omega
      · have HM := Lib.hid (HN.out e1)
        have e1' : (sst == 1) = false := by simpa using e1
        clear HY HN
        go_wp2_with fail
        go_roundw
        case rel => exact ⟨k + 1, by omega, by go_num, by rw [HM.out]; exact ho, hP.alloc _, hB.alloc hB.size _⟩
        case measure => simp [intOf] <;> omega
    · obtain rfl : k = p.ships.length := by omega
      obtain ⟨A3, c3, hv⟩ := own_form hown
      subst hv
      by_cases hpos : 0 < (waitsTo p p.ships.length).length
      · obtain ⟨g, hA3, hg1, hg2⟩ := ints_own hown (by rw [natsI_len]; exact hpos)
        subst hA3
        have hrl : (natsI (waitsTo p p.ships.length)).length = (natsI (rankL p)).length := by
          rw [natsI_len, natsI_len]
          unfold rankL waitsTo
          rw [List.length_mergeSort]
        have HRL := Lib.hid hrl
        clear hrl
        go_wp2_with fail
        refine (sort_ranks p HG.out A c w wr w.heap.size hin hP hpos g c3 hB (by omega) (by omega) hg2 hown).mono ?_
        rintro e w2 ⟨rfl, hs2, hb2⟩
        go_wp2_with fail
        go_ret
        refine ⟨some ⟨g, 0, none⟩, c3, ret_sl HRL.out, by rw [← HRL.out]; exact hs2, hb2, Fr.some (by omega)⟩
      · have hz : waitsTo p p.ships.length = [] := List.eq_nil_of_length_eq_zero (by omega)
        have hrz : rankL p = [] := List.eq_nil_of_length_eq_zero (by
          unfold rankL
          rw [List.length_mergeSort]
          unfold waitsTo at hz
          rw [hz]; rfl)
        have HRZ := Lib.hid hrz
        have hnl : (natsI (waitsTo p p.ships.length)).length = 0 := by rw [hz]; rfl
        clear hrz
        have HFR := Lib.hid (show Fr (w.heap.size + 1) A3 from fr_own hown)
        rw [hnl] at hown ⊢
        go_wp2_with fail
        refine (Try.slices_SortFunc_none (α := Nat) A3 c3 _ wr).mono ?_
        rintro e w2 ⟨rfl, rfl⟩
        go_wp2_with fail
        go_ret
        refine ⟨A3, c3, by rw [HRZ.out]; rfl, by rw [HRZ.out]; exact Sl.zero _ _ _, hB, HFR.out.mono (by omega)⟩
end Go.Proofs.Ytifmdkcpbajdcab
