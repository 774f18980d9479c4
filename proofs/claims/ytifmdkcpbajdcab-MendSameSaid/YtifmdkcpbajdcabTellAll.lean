/- Walks: what telling makes of a good port, whatever the order. -/
import Derived.Test.YtifmdkcpbajdcabTellOk
import Derived.Test.YtifmdkcpbajdcabTellK
namespace Go.Proofs.Ytifmdkcpbajdcab
open Go.RowKit Go.Proofs Plain

theorem tellOk_all {p : Port} (hg : PGood p) (o : Order) : TellOk p o := by
  intro A c g base w hP ho hog hb hw
  by_cases h1 : o.kind = 1
  · exact tellOk_ranks hg (.inl h1) A c g base w hP ho hog hb hw
  by_cases h2 : o.kind = 2
  · exact tellOk_ranks hg (.inr (.inl h2)) A c g base w hP ho hog hb hw
  by_cases h3 : o.kind = 3
  · exact tellOk_ranks hg (.inr (.inr (.inl h3))) A c g base w hP ho hog hb hw
  by_cases h5 : o.kind = 5
  · exact tellOk_ranks hg (.inr (.inr (.inr h5))) A c g base w hP ho hog hb hw
  by_cases h4 : o.kind = 4
  · obtain ⟨kd, a, b, d⟩ := o
    dsimp only at h4
    subst h4
    exact tell_free p A c g base a b d w hP ho hog hb hw hg.len
  by_cases h6 : o.kind = 6
  · obtain ⟨kd, a, b, d⟩ := o
    dsimp only at h6
    subst h6
    exact tell_keep p A c g base a b d w hP ho hog hb hw hg.toFair
  by_cases h7 : o.kind = 7
  · obtain ⟨kd, a, b, d⟩ := o
    dsimp only at h7
    subst h7
    exact tell_drop p A c g base a b d w hP ho hog hb hw hg.toFair
  by_cases h8 : o.kind = 8
  · obtain ⟨kd, a, b, d⟩ := o
    dsimp only at h8
    subst h8
    exact tell_shut p A c g base a b d w hP ho hog hb hw
  exact tell_form p A c g base o w hP ho hog hb hw h1 h2 h3 h4 h5 h6 h7 h8
end Go.Proofs.Ytifmdkcpbajdcab
