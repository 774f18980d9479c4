/- Walks: SpanTells and SpanTakes at every input. -/
import Derived.Test.YtifmdkcpbajdcaaSpanL5
import Derived.Test.YtifmdkcpbajdcaaSpanL8
namespace Go.Proofs.Ytifmdkcpbajdcaa
open Go.RowKit Go.Proofs Plain

theorem spanTells_walk (l : Prof) (A : Option Addr) (c : Nat) (t fr long n : Int) (w : World) (h : Sl w 2 A l.length (stepCells l)) (hm : l.length ≤ maxLen) (hreach : l.length * 16 ≤ 140737488351232) :
    Calls Try.prog 4 #[.slice A l.length c, .int .i64 t, .int .i64 fr, .int .i64 long, .int .i64 n] w fun e w' => e = .returned (.bool true) ∧ Below w.heap.size w w' := by
  cases hg : goodB l with
  | false => exact spanTells_no l A c t fr long n w h hm hreach hg
  | true => exact spanTells_yes l A c t fr long n w h hm hreach hg

theorem spanTakes_walk (l : Prof) (A : Option Addr) (c : Nat) (fr to n : Int) (w : World) (h : Sl w 2 A l.length (stepCells l)) (hm : l.length ≤ maxLen) (hreach : l.length * 16 ≤ 140737488351232) :
    Calls Try.prog 6 #[.slice A l.length c, .int .i64 fr, .int .i64 to, .int .i64 n] w fun e w' => e = .returned (.bool true) ∧ Below w.heap.size w w' := by
  cases hg : goodB l with
  | false => exact spanTakes_no l A c fr to n w h hm hreach hg
  | true =>
    by_cases hb : 0 ≤ fr ∧ fr ≤ to ∧ to ≤ 300 ∧ 0 ≤ n ∧ n ≤ 16
    · exact spanTakes_yes l A c fr to n w h hm hreach hg hb.1 hb.2.1 hb.2.2.1 hb.2.2.2.1 hb.2.2.2.2
    · exact spanTakes_out l A c fr to n w h hm hreach hg hb
end Go.Proofs.Ytifmdkcpbajdcaa
