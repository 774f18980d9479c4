/- Words: one desk behind lines. -/
import Derived.Test.YtifmdkcpbajdcabGreatDoorTwoW
import Derived.Test.YtifmdkcpbajdcabGreatDoorTold
set_option linter.unusedVariables false
set_option linter.unusedSimpArgs false
namespace Go.Proofs.YtifmdkcpbajdcabGreatDoor
open Go.RowKit Go.Proofs Plain

/-- One desk. -/
structure Solo (w W : World) (Bt : Nat) (g : Nat) (d : Desk) : Prop where
  below : Below w.heap.size w W
  line : LineAt Bt W
  bt : Bt ≤ g
  low : w.heap.size ≤ g
  one : DeskAt W (GR (fun _ => False) g) g d
section
variable {w W W' : World} {Bt g : Nat} {d d' : Desk}
theorem Solo.go (t : Solo w W Bt g d) (hb : Below W.heap.size W W') : Solo w W' Bt g d := ⟨below_go t.below hb, t.line.below (hb.mono t.line.size), t.bt, t.low, t.one.below hb⟩
theorem Solo.told (t : Solo w W Bt g d) (hd : DeskAt W' (GR (fun _ => False) g) g d') (ht : Tn g W W') : Solo w W' Bt g d' :=
  ⟨t.below.trans (ht.below t.low t.below.size), t.line.below (ht.below t.bt t.line.size), t.bt, t.low, hd⟩
theorem Solo.tell (t : Solo w W Bt g d) (hk : DOk d) (s : ByteArray) (hs : s.size ≤ maxLen) (ha : d.acts ≤ 1000) :
    Calls Tryz.prog 11 #[.pointer (some ⟨g, 0, none⟩), .string s] W
      (RetD (GR (fun _ => False) g) g (.agg #[.int .i64 (tellD d s.data.toList).2.1, .int .i64 (tellD d s.data.toList).2.2]) (tellD d s.data.toList).1 W) :=
  tellD_any Bt (GR (fun _ => False) g) g d s W t.one hk t.line t.bt hs ha
end
theorem port_twoS (p : Port) (A : Option Addr) (c : Nat) : ∃ v2 v3 v4 v5 v6 v7 v8 v9 v10 v11 v12 v13 v14 v15 : Value, portA p A c = #[.int .i64 p.now, .slice A p.ships.length c, v2, v3, v4, v5, v6, v7, v8, v9, v10, v11, v12, v13, v14, v15] ∧
    (#[.int .i64 p.now, .slice A p.ships.length c, v2, v3, v4, v5, v6, v7, v8, v9, v10, v11, v12, v13, v14, v15] : Array Value).all (·.oneCell') = true := ⟨_, _, _, _, _, _, _, _, _, _, _, _, _, _, rfl, portA_one p A c⟩
theorem own_fr {w : World} {base size n c : Nat} {E : TypeId} {A : Option Addr} {xs : List Value} (h : w.ownsRow base E size (.slice A n c) n xs) : Fr base A := fun x hx => by
  subst hx
  exact own_blockT h x.block rfl
theorem sl_tn {w w' : World} {size n n0 g : Nat} {A : Option Addr} {xs : List Value} (h : Sl w size A n xs) (hf : Fr n0 A) (hg : g < n0) (ht : Tn g w w') : Sl w' size A n xs :=
  ((Row.fresh (G := fun b => b = g) h hf (fun b e => by rw [e]; exact hg)).same (fun b hb hn => ht.block b hb (fun e => hn (by injection e)))).1
theorem BoxAt.tn {w w' : World} {k g : Nat} {vs : Array Value} (h : BoxAt w k vs) (hk : g ≠ k) (ht : Tn g w w') : BoxAt w' k vs := (ht.block k h.lt (fun e => hk (by injection e with e; exact e.symm))).trans h
theorem fresh_below {W W' : World} {cs : Array Value} {T : TypeId} (h : OneRow W.heap.size (W.alloc (.cells cs T)) W') : Below W.heap.size W W' := ((Below.refl _ _).alloc (Nat.le_refl _) _).trans (h.below (Nat.le_refl _))
end Go.Proofs.YtifmdkcpbajdcabGreatDoor
