/- The program's Lower returns what the reference's returns, for all arguments that the law lets in. -/
import Derived.Test.YtdnijphfamnnoaaGFnExactLowerx1
import Derived.Test.YtdnijphfamnnoaaBase
namespace Go.Proofs.Ytdnijphfamnnoaa.Pure
open Go.RowKit Go.Proofs.Ytdnijphfamnnoaa.GFnExactLower Go.Proofs.YtdnijphfamnnoaaW.PrintWords Go.Proofs.YtdnijphfamnnoaaW.PrintLast Go.Proofs.Ytdnijphfamnnoaa.Base
set_option linter.unusedVariables false
set_option linter.unusedSimpArgs false

theorem lowers (s : ByteArray) (hs : s.size ≤ 1048576) : ∀ (d i : Nat), i + d = s.size → Ev (fun k => spec_Lower.l0 k s (((bytesOf s).take i).map Hand.low) (i : Int)) (strOfNums ((bytesOf s).map Hand.low))
  | 0, i, h => by
    refine Ev.step (fun k => spec_Lower.l0.eq_2 _ _ _ _) (ev_neg (by omega) ?_)
    rw [List.take_of_length_le (by rw [bytesOf_length]; omega)]
    exact Ev.now _
  | d + 1, i, h => by
    have ih := lowers s hs d (i + 1) (by omega)
    have hl : i < (bytesOf s).length := by rw [bytesOf_length]; omega
    have hb := Hand.bytesOf_range s i hl
    have hg : bt s (i : Int) = (bytesOf s)[i] := by
      rw [← rd_bytesOf, rd_nat, List.getD_eq_getElem?_getD, List.getElem?_eq_getElem hl]
      rfl
    have hn : ((bytesOf s).take (i + 1)).map Hand.low = ((bytesOf s).take i).map Hand.low ++ [Hand.low (bytesOf s)[i]] := by
      rw [List.take_succ_eq_append_getElem hl, List.map_append]
      rfl
    have hw : wrap64 ((i : Int) + 1) = ((i + 1 : Nat) : Int) := by rw [w64 (by omega) (by omega)]; rfl
    have hlen : (((bytesOf s).take i).map Hand.low).length < 140737488355328 := by simp; omega
    rw [hn] at ih
    refine Ev.step (fun k => spec_Lower.l0.eq_2 _ _ _ _) (ev_pos (by omega) (ev_pos (by omega) ?_))
    simp only [hg, hw]
    generalize (bytesOf s)[i] = b at *
    by_cases c1 : b ≥ 65
    · refine ev_pos c1 ?_
      by_cases c2 : b ≤ 90
      · refine ev_pos c2 (ev_pos hlen ?_)
        rw [show ((b + 97) % 256 - 65) % 256 = Hand.low b by rw [Hand.low, if_pos ⟨c1, c2⟩]; omega]
        exact ih
      · refine ev_neg c2 (ev_pos hlen ?_)
        rw [show Hand.low b = b from if_neg (by omega)] at ih
        exact ih
    · refine ev_neg c1 (ev_pos hlen ?_)
      rw [show Hand.low b = b from if_neg (by omega)] at ih
      exact ih
theorem FnExactLower : laws_FnExactLower.Pure := by
  intro s hs
  by_cases c : (s.size : Int) > 1048576
  · exact ev_k (ev_pos c (Ev.now _))
  · have h1 : Ev (fun k => spec_Lower.f k s) (strOfNums ((bytesOf s).map Hand.low)) := lowers s (by omega) s.size 0 (by omega)
    have h2 : Hand.impl_Lower.f s = some (strOfNums ((bytesOf s).map Hand.low)) := if_pos (by omega)
    exact ev_k (ev_neg c (Ev.bind h1 (ev_bindc h2 (ev_pos rfl (Ev.now _)))))

end Go.Proofs.Ytdnijphfamnnoaa.Pure
