/- Texts of this proof, joined: O5, B6, B7. -/
import Derived.Test.YtagphggcdmjlpaaKHeapOwn5
set_option linter.unusedSimpArgs false
set_option linter.unusedVariables false
set_option maxHeartbeats 1000000
/- Set, whatever it is handed: its ages own rows. -/
namespace Go.Proofs.Ytagphggcdmjlpaa.P
open Go.Ab Go.Proofs.Ytagphggcdmjlpaa.T

theorem setW (h : List Int) (old a w : Int) (late : List Int) (hlen : h.length ≤ maxLen) (hok : ∀ w, w ∈ h → WordOk w) (hlate : late.length ≤ maxLen) (hw : WordOk w) :
    ∃ (l l2 : List Int) (n e : Int), l.length ≤ 4000 ∧ l2.length ≤ 5000 ∧ ACalls Try.prog 33 [agesD h old late, iD a, wD w] [] (fun r obs' => r = .tup [.agg [.ref 0 0 l.length, iD n, .ref 1 0 l2.length], iD e] ∧ obs' = [.row 1 (l.map wrow), .row 1 (l2.map irow)]) := by
  have hnm := namedC h old late [w] hlen hok hlate (by simp [maxLen])
  by_cases he : namedY h old late [w] = 0
  · obtain ⟨L, h1, h2, h3, h4, h5, h6, h7⟩ := namedY_zero hlen hok he
    rw [he] at hnm
    have hat := at_ h a hlen hok
    have hll : L.length ≤ maxLen := by
      have h1 := count_len (L := L)
      rw [← h2] at h1; simp [maxLen]; omega
    have hob := objects h hlen hok
    rw [h1] at hob
    have hbe := begins h L 0 a hob hll
    obtain ⟨B, hB⟩ : ∃ B, (L.any fun o => o.at_ == a) = B := ⟨_, rfl⟩
    rw [hB] at hbe
    by_cases hc : ((atS h a).2 != 0 || !B) = true
    · exact ⟨[], [], 0, 4, by simp, by simp, setNoneO h old a w _ late _ B hnm hat hbe hc⟩
    · simp only [Bool.or_eq_true, not_or, Bool.not_eq_true', bne_iff_ne, ne_eq, Decidable.not_not, Bool.not_eq_false] at hc
      obtain ⟨c1, rfl⟩ := hc
      obtain ⟨o, ho, hoa⟩ := List.any_eq_true.1 hB
      have hoa : o.at_ = a := by simpa using hoa
      subst hoa
      have hao := at_placed h4 ho
      rw [← h2] at hao
      rw [hao] at hat
      by_cases hc2 : ((o.kind != 5) || (o.parts.length : Int) != 1) = true
      · exact ⟨[], [], 0, 12, by simp, by simp, setTypeO h old o.at_ w late o hnm hat hbe hc2⟩
      · simp only [Bool.or_eq_true, not_or, bne_iff_ne, ne_eq, Decidable.not_not] at hc2
        obtain ⟨k5, k1⟩ := hc2
        obtain ⟨p, hp⟩ : ∃ p, o.parts = [p] := by
          match hm : o.parts with
          | [p] => exact ⟨p, rfl⟩
          | [] => rw [hm] at k1; cases k1
          | p :: q :: r => rw [hm] at k1; simp at k1; omega
        obtain ⟨P, Q, hL, ha⟩ := placed_split h4 ho
        subst hL
        have hls : late.length ≤ 4001 := late_small h5 (fun x hx => by
          obtain ⟨n, e1, e2⟩ := placed_len h4 hx
          rw [← h2] at e2
          omega) (by omega) (by omega)
        have henc := enc_cell (h4.2 o ho).1 k5 hp
        have hnl : (flat P).length + 1 < h.length := by
          rw [h2, flat_append, show flat (o :: Q) = encW o ++ flat Q from rfl, henc, List.length_append, List.length_append]
          simp; omega
        rw [ha] at hat hbe
        have := setOkO h old w (flat P).length late o hnm hat hbe (by simp [k5]) (by simp [hp]) h3 hnl (by omega) (rising_of h5.2.2.2.1 _)
        rw [← ha] at this
        refine ⟨h.set ((flat P).length + 1) w, setL old late o.at_ (placeS w), old, 0, by simpa using h3, ?_, ?_⟩
        · unfold setL
          split
          · split
            · omega
            · unfold insL; simp; omega
          · omega
        · rw [List.length_set]; exact this
  · exact ⟨[], [], 0, _, by simp, by simp, setBadO h old a w _ late (by simpa using he) hnm⟩

end Go.Proofs.Ytagphggcdmjlpaa.P

/- HeapOwn: the walk. -/
namespace Go.Proofs.Ytagphggcdmjlpaa.B
open Go.Ab Go.Proofs.Ytagphggcdmjlpaa.T Go.Proofs.Ytagphggcdmjlpaa.P

def fW (l : List Int) : Ob := .row 1 (l.map wrow)
def fB (l : List Blob) : Ob := .row 2 (l.map Blob.row)

theorem set_same {α : Type} {l : List α} {i : Nat} {x : α} (h : l[i]? = some x) : l.set i x = l := by
  refine List.ext_getElem? fun k => ?_
  rw [List.getElem?_set]
  split
  · rename_i e; subst e; rw [h]; simp [(List.getElem?_eq_some_iff.1 h).1]
  · rfl


set_option maxRecDepth 100000 in
theorem ownGood (h g late roots : List Int) (old at_ : Int) (s : List Blob) (text : ByteArray) (o : P.Obj) (hrl : roots.length ≤ 40)
    (c1 : ACalls Try.prog 43 [words h] [] (fun r obs => r = .ref 0 0 h.length ∧ obs = [.row 1 (h.map wrow)])) (c3 : ACalls Try.prog 44 [blobs s] [] (fun r obs => r = .ref 0 0 s.length ∧ obs = [.row 2 (s.map Blob.row)]))
    (c6 : ACalls Try.prog 43 [words g] [] (fun r obs => r = .ref 0 0 g.length ∧ obs = [.row 1 (g.map wrow)])) (c9 : ACalls Try.prog 45 [ints late] [] (fun r obs => r = .ref 0 0 late.length ∧ obs = [.row 1 (late.map irow)]))
    (hsame : ACallP Try.prog 46 [.rd [.sl (h.map wrow)] 0, .rd [.sl (h.map wrow)] 0, .rd [.sl (s.map Blob.row)] 0, .rd [.sl (s.map Blob.row)] 0, .rd [.sl (g.map wrow), .lit (.int .i64 old), .sl (late.map irow)] 0, .rd [.sl (g.map wrow)] 0, .rd [.sl (late.map irow)] 0] (bD true))
    (lp lo1 lo2 lm lj ls ll : List Int) (pa pe ox oe mn me jn je sn se : Int) (mr jr : List Int)
    (hput : ACalls Try.prog 17 [words h, objD o] [] (fun r obs' => r = .tup [.ref 0 0 lp.length, iD pa, iD pe] ∧ obs' = [.row 1 (lp.map wrow)]))
    (wd : Int) (hwd : IntKind.u64.wrap (IntKind.i64.wrap ((IntKind.i64.wrap (8 * (if 0 > at_ then 0 else at_))).tmod 4096 + 4)) = wd)
    (hover : ACalls Try.prog 27 [words h, words g, wD wd] [] (fun r obs' => r = .tup [.ref 0 0 lo1.length, .ref 1 0 lo2.length, wD ox, iD oe] ∧ obs' = [.row 1 (lo1.map wrow), .row 1 (lo2.map wrow)]))
    (hmin : ACalls Try.prog 38 [agesD g old late, words roots] [] (fun r obs' => r = .tup [.agg [.ref 0 0 lm.length, iD mn, .nil], words mr, iD me] ∧ obs' = [.row 1 (lm.map wrow)]))
    (hmaj : ACalls Try.prog 39 [agesD g old late, words roots] [] (fun r obs' => r = .tup [.agg [.ref 0 0 lj.length, iD jn, .nil], words jr, iD je] ∧ obs' = [.row 1 (lj.map wrow)]))
    (hset : ACalls Try.prog 33 [agesD g old late, iD at_, wD 0] [] (fun r obs' => r = .tup [.agg [.ref 0 0 ls.length, iD sn, .ref 1 0 ll.length], iD se] ∧ obs' = [.row 1 (ls.map wrow), .row 1 (ll.map irow)]))
    (hhold : ACalls Try.prog 49 [blobs s, sD text] [] (StoreR iD)) (hlet : ACalls Try.prog 50 [blobs s, iD at_] [] (StoreR bD))
    (b1 : lp.length ≤ 4000) (b2 : lo1.length ≤ 4000) (b3 : lo2.length ≤ 4000) (b4 : lm.length ≤ 4000) (b5 : lj.length ≤ 4000) (b6 : ls.length ≤ 4000) (b7 : ll.length ≤ 5000) :
    ACallP Try.prog 14 [words h, objD o, agesD g old late, words roots, iD at_, blobs s, sD text] (bD true) := by
  have hr40 : decide ((roots.length : Int) > 40) = false := decide_eq_false (by omega)
  have htk1 : List.take h.length (h.map wrow) = h.map wrow := List.take_of_length_le (by simp)
  have htk2 : List.take s.length (s.map Blob.row) = s.map Blob.row := List.take_of_length_le (by simp)
  have htk3 : List.take g.length (g.map wrow) = g.map wrow := List.take_of_length_le (by simp)
  have htk4 : List.take late.length (late.map irow) = late.map irow := List.take_of_length_le (by simp)
  refine acallp_fn [14] Try.func14 rfl rfl Try.ntmps14 (by simp) fun R hR => ?_
  (refine awp_reg_seq [3, 4, 6, 7, 8, 9, 12] fun K hK => ?_; (repeat' ((refine al_r rfl fun K' hK' => ?_); (repeat (simp only [go_sem, simprocAttr, List.length_map])); ((refine hK' _ _ ?_) <;> clear hK' K'))); all_goals (refine al_nil ?_; (simp only [go_sem, simprocAttr, List.length_map]); refine hK _ ?_; clear hK K))
  (refine awp_frz [3, 4, 6, 7, 8, 9, 12] [] (by decide) (by (simp; done)) ?_; simp only [go_sem, simprocAttr, List.length_map])
  refine awp_seq_k fun K hK => ?_

  (refine awp_reg_seq [3, 4, 6, 7, 8, 9, 12, 55] fun K hK => ?_; (repeat' ((first | refine al_r rfl fun K' hK' => ?_ | refine al_t rfl rfl fun K' hK' => ?_); (repeat (simp only [go_sem, simprocAttr, hr40, List.length_map])); (first | ((first | refine hK' _ _ ?_ | refine ⟨?_, hK' _ _ ?_⟩) <;> clear hK' K' <;> (first | (show alist _ _ _ _ _ _; skip) | (intro s hs; cases hs; done))) | ((show AC _ _ (D.fn 16 _) _ _); refine acall_p (f := 16) (e := rfl) (hr := rfl) (k := hK' _ _ ?_) (hc := Try.call16) (h := heaps); clear hK' K')))); all_goals (refine al_nil ?_; (simp only [go_sem, simprocAttr, hr40, List.length_map]); refine hK _ ?_; clear hK K))
  refine awp_if (_) rfl (fun hc => ?_) (fun hc => ?_)
  · cases hc
  · refine awp_skip ?_
    refine hK _ ?_; clear hK K
    refine awp_draw_seq (by kernel_rfl) [3, 4, 6, 7, 8, 9, 12, 15, 16, 17, 18] fun K hK => ?_
    ((refine ah_r 0 rfl (by kernel_rfl) rfl fun K' hK' => ?_); (simp only [go_sem, simprocAttr, hr40, List.length_map]); ((refine hK' _ ?_); clear hK' K'))
    ((refine ah_r 2 rfl (by kernel_rfl) rfl fun K' hK' => ?_); (simp only [go_sem, simprocAttr, hr40, List.length_map]); ((refine hK' _ ?_); clear hK' K'))
    ((refine ah_r 4 rfl (by kernel_rfl) rfl fun K' hK' => ?_); (simp only [go_sem, simprocAttr, hr40, List.length_map]); ((refine hK' _ ?_); clear hK' K'))
    ((refine ah_r 5 rfl (by kernel_rfl) rfl fun K' hK' => ?_); (simp only [go_sem, simprocAttr, hr40, List.length_map]); ((refine hK' _ ?_); clear hK' K'))
    ((refine ah_r 7 rfl (by kernel_rfl) rfl fun K' hK' => ?_); (simp only [go_sem, simprocAttr, hr40, List.length_map]); ((refine hK' _ ?_); clear hK' K'))
    ((refine ah_r 8 rfl (by kernel_rfl) rfl fun K' hK' => ?_); (simp only [go_sem, simprocAttr, hr40, List.length_map]); ((refine hK' _ ?_); clear hK' K'))
    refine ah_cut keysT (List.range 8) (by decide) (fun q hq => absurd hq (Nat.not_lt_zero q)) ?_
    refine (fl_all h g late roots old at_ s text [.lit (.int .i64 o.at_), .lit (.int .i64 o.kind), .lit (.int .i64 o.num), .lit (.string o.text), .sl (o.parts.map wrow)] rfl rfl rfl rfl Try.call43 c1 rfl rfl rfl rfl Try.call44 c3 rfl rfl rfl rfl Try.call43 c6 rfl rfl rfl rfl Try.call45 c9 rfl rfl rfl rfl (by kernel_rfl) rfl rfl rfl rfl (by kernel_rfl) rfl rfl rfl rfl (by kernel_rfl) rfl rfl rfl rfl (by kernel_rfl) (by decide) ?_ ?_ 8 (false, false, false, false, false, false, false, false) rfl rfl)
    · rintro ⟨d1, d3, d6, d9, a0, a1, a2, a3⟩ h1 h2
      cases d1 <;> cases d3 <;> cases d6 <;> cases d9 <;> cases a0 <;> cases a1 <;> cases a2 <;> cases a3 <;> first | (cases h1; done) | (exact absurd rfl h2) | kernel_rfl
    simp only [Fl.st, Fl.tm, Fl.ob, Fl.listed, baseT, if_true, List.cons_append, List.nil_append]
    (refine ah_one 14 rfl (by kernel_rfl) ?_; (repeat' ((refine al_d rfl fun K' hK' => ?_); (repeat (first | (simp only [go_sem, simprocAttr, hr40, List.length_map]) | refine AS.mk ?_)); ((refine ⟨?_, hK' _ _ ?_⟩) <;> clear hK' K' <;> (first | (show alist _ _ _ _ _ _; skip) | (simp; done))))); all_goals refine al_nil ?_)
    (refine ah_one 15 rfl (by kernel_rfl) ?_; (repeat' ((refine al_d rfl fun K' hK' => ?_); (repeat (first | (simp only [go_sem, simprocAttr, hr40, List.length_map]) | refine AS.mk ?_)); ((refine ⟨?_, hK' _ _ ?_⟩) <;> clear hK' K' <;> (first | (show alist _ _ _ _ _ _; skip) | (simp; done))))); all_goals refine al_nil ?_)
    (refine ah_one 16 rfl (by kernel_rfl) ?_; (repeat' ((refine al_d rfl fun K' hK' => ?_); (repeat (first | (simp only [go_sem, simprocAttr, hr40, List.length_map]) | refine AS.mk ?_)); ((refine ⟨?_, hK' _ _ ?_⟩) <;> clear hK' K' <;> (first | (show alist _ _ _ _ _ _; skip) | (simp; done))))); all_goals refine al_nil ?_)
    (refine ah_one 17 rfl (by kernel_rfl) ?_; (repeat' ((refine al_d rfl fun K' hK' => ?_); (repeat (first | (simp only [go_sem, simprocAttr, hr40, List.length_map]) | refine AS.mk ?_)); ((refine ⟨?_, hK' _ _ ?_⟩) <;> clear hK' K' <;> (first | (show alist _ _ _ _ _ _; skip) | (simp; done))))); all_goals refine al_nil ?_)
    (refine ah_done (by kernel_rfl) ?_; (simp only [go_sem, simprocAttr, hr40, List.length_map]); refine hK _ ?_; clear hK K)

    (refine awp_frz [3, 4, 6, 7, 8, 9, 12, 15, 16, 17, 18] [] (by decide) (by (simp; done)) ?_; simp only [go_sem, simprocAttr, htk1, htk2, htk3, htk4, List.length_map])
    (refine awp_reg_seq [3, 4, 6, 7, 8, 9, 12, 19] fun K hK => ?_; (repeat' ((refine al_r rfl fun K' hK' => ?_); (repeat (simp only [go_sem, simprocAttr, htk1, htk2, htk3, htk4, List.length_map])); ((refine hK' _ _ ?_) <;> clear hK' K'))); all_goals (refine al_nil ?_; (simp only [go_sem, simprocAttr, htk1, htk2, htk3, htk4, List.length_map]); refine hK _ ?_; clear hK K))
    (refine awp_reg_seq [3, 4, 6, 7, 9, 12, 19, 20] fun K hK => ?_; (repeat' ((refine al_r rfl fun K' hK' => ?_); (repeat (simp only [go_sem, simprocAttr, htk1, htk2, htk3, htk4, List.length_map])); (first | ((refine hK' _ _ ?_) <;> clear hK' K') | ((show AC _ _ (D.fn 17 _) _ _); refine acall_new (f := 17) Try.call17 hput rfl ?_; rintro r obs' ⟨rfl, rfl⟩; (simp only [go_sem, simprocAttr, htk1, htk2, htk3, htk4, List.length_map]); refine hK' _ _ ?_; clear hK' K')))); all_goals (refine al_nil ?_; (simp only [go_sem, simprocAttr, htk1, htk2, htk3, htk4, List.length_map]); refine hK _ ?_; clear hK K))

    (refine awp_reg_seq [3, 4, 6, 9, 12, 19, 20, 23, 24] fun K hK => ?_; (repeat' ((refine al_r rfl fun K' hK' => ?_); (repeat (simp only [go_sem, simprocAttr, htk1, htk2, htk3, htk4, hwd, List.length_map])); (first | ((refine hK' _ _ ?_) <;> clear hK' K') | ((show AC _ _ (D.fn 27 _) _ _); refine acall_new (f := 27) Try.call27 hover rfl ?_; rintro r obs' ⟨rfl, rfl⟩; (simp only [go_sem, simprocAttr, htk1, htk2, htk3, htk4, hwd, List.length_map]); refine hK' _ _ ?_; clear hK' K')))); all_goals (refine al_nil ?_; (simp only [go_sem, simprocAttr, htk1, htk2, htk3, htk4, hwd, List.length_map]); refine hK _ ?_; clear hK K))
    (refine awp_reg_seq [3, 4, 6, 9, 12, 19, 20, 23, 24, 27] fun K hK => ?_; (repeat' ((first | refine al_r rfl fun K' hK' => ?_ | refine al_d rfl fun K' hK' => ?_); (repeat (first | (simp only [go_sem, simprocAttr, htk1, htk2, htk3, htk4, hwd, List.length_map]) | refine AS.mk ?_)); (first | ((first | refine hK' _ _ ?_ | refine ⟨?_, hK' _ _ ?_⟩) <;> clear hK' K' <;> (first | (show alist _ _ _ _ _ _; skip) | (simp; done))) | ((show AC _ _ (D.fn 38 _) _ _); refine acall_new (f := 38) Try.call38 hmin rfl ?_; rintro r obs' ⟨rfl, rfl⟩; (simp only [go_sem, simprocAttr, htk1, htk2, htk3, htk4, hwd, List.length_map]); refine hK' _ _ ?_; clear hK' K')))); all_goals (refine al_nil ?_; (simp only [go_sem, simprocAttr, htk1, htk2, htk3, htk4, hwd, List.length_map]); refine hK _ ?_; clear hK K))
    (refine awp_reg_seq [4, 6, 9, 12, 19, 20, 23, 24, 27, 30] fun K hK => ?_; (repeat' ((first | refine al_r rfl fun K' hK' => ?_ | refine al_d rfl fun K' hK' => ?_); (repeat (first | (simp only [go_sem, simprocAttr, htk1, htk2, htk3, htk4, hwd, List.length_map]) | refine AS.mk ?_)); (first | ((first | refine hK' _ _ ?_ | refine ⟨?_, hK' _ _ ?_⟩) <;> clear hK' K' <;> (first | (show alist _ _ _ _ _ _; skip) | (simp; done))) | ((show AC _ _ (D.fn 39 _) _ _); refine acall_new (f := 39) Try.call39 hmaj rfl ?_; rintro r obs' ⟨rfl, rfl⟩; (simp only [go_sem, simprocAttr, htk1, htk2, htk3, htk4, hwd, List.length_map]); refine hK' _ _ ?_; clear hK' K')))); all_goals (refine al_nil ?_; (simp only [go_sem, simprocAttr, htk1, htk2, htk3, htk4, hwd, List.length_map]); refine hK _ ?_; clear hK K))
    (refine awp_reg_seq [4, 6, 12, 19, 20, 23, 24, 27, 30, 33] fun K hK => ?_; (repeat' ((first | refine al_r rfl fun K' hK' => ?_ | refine al_d rfl fun K' hK' => ?_); (repeat (first | (simp only [go_sem, simprocAttr, htk1, htk2, htk3, htk4, hwd, List.length_map]) | refine AS.mk ?_)); (first | ((first | refine hK' _ _ ?_ | refine ⟨?_, hK' _ _ ?_⟩) <;> clear hK' K' <;> (first | (show alist _ _ _ _ _ _; skip) | (simp; done))) | ((show AC _ _ (D.fn 33 _) _ _); refine acall_new (f := 33) Try.call33 hset rfl ?_; rintro r obs' ⟨rfl, rfl⟩; (simp only [go_sem, simprocAttr, htk1, htk2, htk3, htk4, hwd, List.length_map]); refine hK' _ _ ?_; clear hK' K')))); all_goals (refine al_nil ?_; (simp only [go_sem, simprocAttr, htk1, htk2, htk3, htk4, hwd, List.length_map]); refine hK _ ?_; clear hK K))
    (refine awp_reg_seq [4, 12, 19, 20, 23, 24, 27, 30, 33, 35] fun K hK => ?_; (repeat' ((refine al_r rfl fun K' hK' => ?_); (repeat (simp only [go_sem, simprocAttr, htk1, htk2, htk3, htk4, hwd, List.length_map])); (first | ((refine hK' _ _ ?_) <;> clear hK' K') | ((show AC _ _ (D.fn 49 _) _ _); refine acall_m (f := 49) [] Try.call49 hhold rfl rfl (by decide) (by simp) ?_; rintro r obs' ⟨L1, k1, e1, rfl, rfl, hL1⟩; refine ⟨by simp, ?_⟩; (simp only [go_sem, simprocAttr, htk1, htk2, htk3, htk4, hwd, List.length_map]); refine hK' _ _ ?_; clear hK' K')))); all_goals (refine al_nil ?_; (simp only [go_sem, simprocAttr, htk1, htk2, htk3, htk4, hwd, List.length_map]); refine hK _ ?_; clear hK K))
    (refine awp_reg_seq [19, 20, 23, 24, 27, 30, 33, 35, 38] fun K hK => ?_; (repeat' ((refine al_r rfl fun K' hK' => ?_); (repeat (simp only [go_sem, simprocAttr, htk1, htk2, htk3, htk4, hwd, List.length_map])); (first | ((refine hK' _ _ ?_) <;> clear hK' K') | ((show AC _ _ (D.fn 50 _) _ _); refine acall_m (f := 50) [] Try.call50 hlet rfl rfl (by decide) (by simp) ?_; rintro r obs' ⟨L2, k2, e2, rfl, rfl, hL2⟩; refine ⟨by simp, ?_⟩; (simp only [go_sem, simprocAttr, htk1, htk2, htk3, htk4, hwd, List.length_map]); refine hK' _ _ ?_; clear hK' K')))); all_goals (refine al_nil ?_; (simp only [go_sem, simprocAttr, htk1, htk2, htk3, htk4, hwd, List.length_map]); refine hK _ ?_; clear hK K))
    (refine awp_reg_seq [19, 20, 23, 24, 27, 30, 33, 35, 38, 41] fun K hK => ?_; (repeat' ((refine al_r rfl fun K' hK' => ?_); (repeat (simp only [go_sem, simprocAttr, htk1, htk2, htk3, htk4, hwd, List.length_map])); (first | ((refine hK' _ _ ?_) <;> clear hK' K') | ((show AC _ _ (D.fn 46 _) _ _); refine acall_p (f := 46) (e := rfl) (hr := rfl) (k := hK' _ _ ?_) (hc := Try.call46) (h := hsame); clear hK' K')))); all_goals (refine al_nil ?_; (simp only [go_sem, simprocAttr, htk1, htk2, htk3, htk4, hwd, List.length_map]); refine hK _ ?_; clear hK K))
    refine awp_seq_k fun K hK => ?_
    (refine awp_reg_seq [19, 33, 35, 38, 41, 135, 136] fun K hK => ?_; (repeat' ((refine al_r rfl fun K' hK' => ?_); (repeat (simp only [go_sem, simprocAttr, htk1, htk2, htk3, htk4, hwd, List.length_map])); ((refine hK' _ _ ?_) <;> clear hK' K'))); all_goals (refine al_nil ?_; (simp only [go_sem, simprocAttr, htk1, htk2, htk3, htk4, hwd, List.length_map]); refine hK _ ?_; clear hK K))
    (refine awp_frz [19, 33, 35, 38, 41, 135, 136] [0, 1, 2, 3, 5, 7, 8, 9, 10, 11] (by decide) (by (simp; done)) ?_; simp only [go_sem, simprocAttr, htk1, htk2, htk3, htk4, hwd, List.length_map])
    refine awp_block ?_
    -- loop 0 head [19, 33, 35, 38, 41, 135, 136]
    refine awp_loop (fun m st => ∃ (i : Nat) (rows : List (List Int)), i ≤ 6 ∧ m = 6 - i ∧ rows.map List.length = [lp.length, lo1.length, lo2.length, lm.length, lj.length, ls.length] ∧ st = ⟨ofL [(19, (.fn 46 [.rd [.sl (h.map wrow)] 0, .rd [.sl (h.map wrow)] 0, .rd [.sl (s.map Blob.row)] 0, .rd [.sl (s.map Blob.row)] 0, .rd [.sl (g.map wrow), .lit (.int .i64 old), .sl (late.map irow)] 0, .rd [.sl (g.map wrow)] 0, .rd [.sl (late.map irow)] 0])), (33, .ptr 7 0 0), (35, .ref 8 0 L1.length), (38, .ref 9 0 L2.length), (41, bD true), (135, (.agg [.ref 0 0 lp.length, .ref 1 0 lo1.length, .ref 2 0 lo2.length, .ref 3 0 lm.length, .ref 4 0 lj.length, .ref 5 0 ls.length])), (136, iD i)], rows.map fW ++ [.row 1 (ll.map irow), .box [.ref 5 0 ls.length, iD sn, .ref 6 0 ll.length], .row 2 (L1.map Blob.row), .row 2 (L2.map Blob.row)], 0⟩) ⟨_, 0, [lp, lo1, lo2, lm, lj, ls], Nat.zero_le _, rfl, rfl, rfl⟩ ?_
    rintro m st ⟨i, rows, hi, hm, hrl2, rfl⟩
    (refine awp_reg_seq [19, 33, 35, 38, 41, 135, 136, 137] fun K hK => ?_; (repeat' ((refine al_r rfl fun K' hK' => ?_); (repeat (simp only [go_sem, simprocAttr, htk1, htk2, htk3, htk4, hwd, List.length_map])); ((refine hK' _ _ ?_) <;> clear hK' K'))); all_goals (refine al_nil ?_; (simp only [go_sem, simprocAttr, htk1, htk2, htk3, htk4, hwd, List.length_map]); refine hK _ ?_; clear hK K))
    refine awp_seq_k fun K hK => ?_
    refine awp_if (decide ((i : Int) < 6)) rfl (fun hc => ?_) (fun hc => ?_)
    · refine awp_skip ?_
      refine hK _ ?_; clear hK K
      refine awp_seq_k fun K hK => ?_
      refine awp_block ?_
      have hi2 : i < 6 := by simp at hc; omega
      obtain ⟨n, hget, hn⟩ : ∃ n : Nat, ([.ref 0 0 lp.length, .ref 1 0 lo1.length, .ref 2 0 lo2.length, .ref 3 0 lm.length, .ref 4 0 lj.length, .ref 5 0 ls.length] : List D)[i]? = some (.ref i 0 n) ∧ ([lp.length, lo1.length, lo2.length, lm.length, lj.length, ls.length] : List Nat)[i]? = some n := by
        match i, hi2 with
        | 0, _ => exact ⟨_, rfl, rfl⟩
        | 1, _ => exact ⟨_, rfl, rfl⟩
        | 2, _ => exact ⟨_, rfl, rfl⟩
        | 3, _ => exact ⟨_, rfl, rfl⟩
        | 4, _ => exact ⟨_, rfl, rfl⟩
        | 5, _ => exact ⟨_, rfl, rfl⟩
      have hn4 : n ≤ 4000 := by
        have := List.mem_of_getElem? hn
        simp only [List.mem_cons, List.not_mem_nil, or_false] at this
        omega
      have hrow : ∀ rs : List (List Int), rs.map List.length = [lp.length, lo1.length, lo2.length, lm.length, lj.length, ls.length] → ∃ l, rs[i]? = some l ∧ l.length = n ∧ (rs.map fW ++ [.row 1 (ll.map irow), .box [.ref 5 0 ls.length, iD sn, .ref 6 0 ll.length], .row 2 (L1.map Blob.row), .row 2 (L2.map Blob.row)])[i]? = some (fW l) := fun rs hrs => by
        rw [← hrs, List.getElem?_map] at hn
        cases hx : rs[i]? with
        | none => rw [hx] at hn; cases hn
        | some l =>
          rw [hx] at hn
          refine ⟨l, rfl, by simpa using hn, ?_⟩
          rw [List.getElem?_append_left (by simpa using (List.getElem?_eq_some_iff.1 hx).1), List.getElem?_map, hx]; rfl
      obtain ⟨l0, _, _, hob0⟩ := hrow rows hrl2
      have hnn : (0 : Int) ≤ (i : Int) := Int.natCast_nonneg i
      have hi3 : (i : Int) < ((6 : Nat) : Int) := by omega
      have hnx : IntKind.i64.wrap ((i : Int) + 1) = ((i + 1 : Nat) : Int) := by rw [Go.Ab.wrap_small (by omega) (by omega)]; rfl

      (refine awp_reg_seq [19, 33, 35, 38, 41, 43, 135, 136] fun K hK => ?_; (repeat' ((refine al_r rfl fun K' hK' => ?_); (repeat (simp only [go_sem, simprocAttr, hget, hob0, fW, hnn, hi3, hnx, Int.toNat_natCast, Nat.mul_one, List.length_map])); ((first | refine hK' _ _ ?_ | refine ⟨?_, hK' _ _ ?_⟩) <;> clear hK' K' <;> (first | (show alist _ _ _ _ _ _; skip) | assumption)))); all_goals (refine al_nil ?_; (simp only [go_sem, simprocAttr, hget, hob0, fW, hnn, hi3, hnx, Int.toNat_natCast, Nat.mul_one, List.length_map]); refine hK _ ?_; clear hK K))
      (refine awp_reg_seq [19, 33, 35, 38, 41, 43, 135, 136, 140, 141] fun K hK => ?_; (repeat' ((refine al_r rfl fun K' hK' => ?_); (repeat (simp only [go_sem, simprocAttr, hget, hob0, fW, hnn, hi3, hnx, Int.toNat_natCast, Nat.mul_one, List.length_map])); ((first | refine hK' _ _ ?_ | refine ⟨?_, hK' _ _ ?_⟩) <;> clear hK' K' <;> (first | (show alist _ _ _ _ _ _; skip) | (intro s hs; cases hs; done))))); all_goals (refine al_nil ?_; (simp only [go_sem, simprocAttr, hget, hob0, fW, hnn, hi3, hnx, Int.toNat_natCast, Nat.mul_one, List.length_map]); refine hK _ ?_; clear hK K))
      refine awp_block ?_
      -- loop 1 head [19, 33, 35, 38, 41, 43, 135, 136, 140, 141]
      refine awp_loop (fun m st => ∃ (j : Nat) (rs : List (List Int)), j ≤ n ∧ m = n - j ∧ rs.map List.length = [lp.length, lo1.length, lo2.length, lm.length, lj.length, ls.length] ∧ st = ⟨ofL [(19, (.fn 46 [.rd [.sl (h.map wrow)] 0, .rd [.sl (h.map wrow)] 0, .rd [.sl (s.map Blob.row)] 0, .rd [.sl (s.map Blob.row)] 0, .rd [.sl (g.map wrow), .lit (.int .i64 old), .sl (late.map irow)] 0, .rd [.sl (g.map wrow)] 0, .rd [.sl (late.map irow)] 0])), (33, .ptr 7 0 0), (35, .ref 8 0 L1.length), (38, .ref 9 0 L2.length), (41, bD true), (43, .ref i 0 n), (135, (.agg [.ref 0 0 lp.length, .ref 1 0 lo1.length, .ref 2 0 lo2.length, .ref 3 0 lm.length, .ref 4 0 lj.length, .ref 5 0 ls.length])), (136, iD i), (140, iD n), (141, iD j)], rs.map fW ++ [.row 1 (ll.map irow), .box [.ref 5 0 ls.length, iD sn, .ref 6 0 ll.length], .row 2 (L1.map Blob.row), .row 2 (L2.map Blob.row)], 0⟩) ⟨_, 0, rows, Nat.zero_le _, rfl, hrl2, rfl⟩ ?_
      rintro m st ⟨j, rs, hj, hm2, hrs, rfl⟩
      (refine awp_reg_seq [19, 33, 35, 38, 41, 43, 135, 136, 140, 141, 142] fun K hK => ?_; (repeat' ((refine al_r rfl fun K' hK' => ?_); (repeat (simp only [go_sem, simprocAttr, hget, hob0, fW, hnn, hi3, hnx, Int.toNat_natCast, Nat.mul_one, List.length_map])); ((refine hK' _ _ ?_) <;> clear hK' K'))); all_goals (refine al_nil ?_; (simp only [go_sem, simprocAttr, hget, hob0, fW, hnn, hi3, hnx, Int.toNat_natCast, Nat.mul_one, List.length_map]); refine hK _ ?_; clear hK K))
      refine awp_seq_k fun K hK => ?_
      refine awp_if (decide ((j : Int) < (n : Int))) rfl (fun hc => ?_) (fun hc => ?_)
      · refine awp_skip ?_
        refine hK _ ?_; clear hK K
        refine awp_seq_k fun K hK => ?_
        refine awp_block ?_
        (refine awp_reg_seq [19, 33, 35, 38, 41, 43, 44, 135, 136, 140, 141] fun K hK => ?_; (repeat' ((refine al_r rfl fun K' hK' => ?_); (repeat (simp only [go_sem, simprocAttr, hget, hob0, fW, hnn, hi3, hnx, Int.toNat_natCast, Nat.mul_one, List.length_map])); ((refine hK' _ _ ?_) <;> clear hK' K'))); all_goals (refine al_nil ?_; (simp only [go_sem, simprocAttr, hget, hob0, fW, hnn, hi3, hnx, Int.toNat_natCast, Nat.mul_one, List.length_map]); refine hK _ ?_; clear hK K))
        have hj2 : j < n := by simpa using hc
        obtain ⟨l, hl1, hl2, hob⟩ := hrow rs hrs
        obtain ⟨x, hx⟩ := lt_get (l := l) (i := j) (by omega)
        have hjn : (0 : Int) ≤ (j : Int) := Int.natCast_nonneg j
        have hjl : (j : Int) < (n : Int) := by omega
        have hjx : IntKind.i64.wrap ((j : Int) + 1) = ((j + 1 : Nat) : Int) := by rw [Go.Ab.wrap_small (by omega) (by omega)]; rfl
        have hxw : (l.map wrow)[j]? = some (wrow x) := by rw [List.getElem?_map, hx]; rfl
        have hsetO : (rs.map fW ++ ([.row 1 (ll.map irow), .box [.ref 5 0 ls.length, iD sn, .ref 6 0 ll.length], .row 2 (L1.map Blob.row), .row 2 (L2.map Blob.row)] : List Ob)).set i (Ob.row 1 ((l.map wrow).set j [PV.lit (Value.int IntKind.u64 (IntKind.u64.wrap (x + 1)))])) = (rs.set i (l.set j (IntKind.u64.wrap (x + 1)))).map fW ++ ([.row 1 (ll.map irow), .box [.ref 5 0 ls.length, iD sn, .ref 6 0 ll.length], .row 2 (L1.map Blob.row), .row 2 (L2.map Blob.row)] : List Ob) := by
          rw [List.set_append_left _ _ (by simpa using (List.getElem?_eq_some_iff.1 hl1).1), List.map_set]
          congr 2
          show Ob.row 1 _ = Ob.row 1 _
          rw [List.map_set]

        (refine awp_reg_end [19, 33, 35, 38, 41, 43, 135, 136, 140, 141] fun K hK => ?_; (repeat' ((first | refine al_r rfl fun K' hK' => ?_ | refine al_d rfl fun K' hK' => ?_); (repeat (first | (simp only [go_sem, simprocAttr, hob, hxw, fW, hjn, hjl, hjx, hsetO, Int.toNat_natCast, Nat.zero_add, List.length_map]) | refine AS.mk ?_)); ((first | refine hK' _ _ ?_ | refine ⟨?_, hK' _ _ ?_⟩) <;> clear hK' K' <;> (first | (show alist _ _ _ _ _ _; skip) | (simp; done))))); all_goals (refine al_nil ?_; (simp only [go_sem, simprocAttr, hob, hxw, fW, hjn, hjl, hjx, hsetO, Int.toNat_natCast, Nat.zero_add, List.length_map]); refine hK _ ?_; clear hK K))
        refine hK _ ?_; clear hK K
        (refine awp_reg_end [19, 33, 35, 38, 41, 43, 135, 136, 140, 141] fun K hK => ?_; (repeat' ((refine al_r rfl fun K' hK' => ?_); (repeat (simp only [go_sem, simprocAttr, hob, hxw, fW, hjn, hjl, hjx, hsetO, Int.toNat_natCast, Nat.zero_add, List.length_map])); ((refine hK' _ _ ?_) <;> clear hK' K'))); all_goals (refine al_nil ?_; (simp only [go_sem, simprocAttr, hob, hxw, fW, hjn, hjl, hjx, hsetO, Int.toNat_natCast, Nat.zero_add, List.length_map]); refine hK _ ?_; clear hK K))
        exact ⟨n - (j + 1), by omega, j + 1, rs.set i (l.set j (IntKind.u64.wrap (x + 1))), by omega, rfl, by rw [List.map_set, List.length_set, ← hrs]; exact set_same (by rw [List.getElem?_map, hl1]; rfl), rfl⟩

      · refine awp_exit ?_
        clear hK
        refine hK _ ?_; clear hK K
        (refine awp_reg_end [19, 33, 35, 38, 41, 135, 136] fun K hK => ?_; (repeat' ((refine al_r rfl fun K' hK' => ?_); (repeat (simp only [go_sem, simprocAttr, hnx, List.length_map])); ((refine hK' _ _ ?_) <;> clear hK' K'))); all_goals (refine al_nil ?_; (simp only [go_sem, simprocAttr, hnx, List.length_map]); refine hK _ ?_; clear hK K))
        exact ⟨6 - (i + 1), by omega, i + 1, rs, by omega, rfl, hrs, rfl⟩

    · refine awp_exit ?_
      clear hK
      refine hK _ ?_; clear hK K
      refine awp_seq_k fun K hK => ?_
      obtain ⟨r0, r1, r2, r3, r4, r5, rfl⟩ : ∃ r0 r1 r2 r3 r4 r5, rows = [r0, r1, r2, r3, r4, r5] := by
        have h6 : rows.length = 6 := by have := congrArg List.length hrl2; simpa using this
        match rows, h6 with
        | [r0, r1, r2, r3, r4, r5], _ => exact ⟨_, _, _, _, _, _, rfl⟩
      simp only [List.map_cons, List.map_nil, List.cons_append, List.nil_append]
      (refine awp_frz [19, 33, 35, 38, 41] [6, 7, 8, 9] (by decide) (by (simp; done)) ?_; simp only [go_sem, simprocAttr, List.length_map])
      (refine awp_reg_seq [19, 33, 35, 38, 41, 154, 155] fun K hK => ?_; (repeat' ((refine al_r rfl fun K' hK' => ?_); (repeat (simp only [go_sem, simprocAttr, List.length_map])); ((first | refine hK' _ _ ?_ | refine ⟨?_, hK' _ _ ?_⟩) <;> clear hK' K' <;> (first | (show alist _ _ _ _ _ _; skip) | (intro s hs; cases hs; done))))); all_goals (refine al_nil ?_; (simp only [go_sem, simprocAttr, List.length_map]); refine hK _ ?_; clear hK K))
      refine awp_block ?_
      -- loop 2 head [19, 33, 35, 38, 41, 154, 155]
      refine awp_loop (fun m st => ∃ (j : Nat) (lq : List Int), j ≤ ll.length ∧ m = ll.length - j ∧ lq.length = ll.length ∧ st = ⟨ofL [(19, (.fn 46 [.rd [.sl (h.map wrow)] 0, .rd [.sl (h.map wrow)] 0, .rd [.sl (s.map Blob.row)] 0, .rd [.sl (s.map Blob.row)] 0, .rd [.sl (g.map wrow), .lit (.int .i64 old), .sl (late.map irow)] 0, .rd [.sl (g.map wrow)] 0, .rd [.sl (late.map irow)] 0])), (33, .ptr 1 0 0), (35, .ref 2 0 L1.length), (38, .ref 3 0 L2.length), (41, bD true), (154, iD ll.length), (155, iD j)], [.row 1 (lq.map irow), .box [.none, iD sn, .ref 0 0 ll.length], .row 2 (L1.map Blob.row), .row 2 (L2.map Blob.row)], 0⟩) ⟨_, 0, ll, Nat.zero_le _, rfl, rfl, rfl⟩ ?_
      rintro m st ⟨j, lq, hj, hm2, hlq, rfl⟩
      (refine awp_reg_seq [19, 33, 35, 38, 41, 154, 155, 156] fun K hK => ?_; (repeat' ((refine al_r rfl fun K' hK' => ?_); (repeat (simp only [go_sem, simprocAttr, List.length_map])); ((refine hK' _ _ ?_) <;> clear hK' K'))); all_goals (refine al_nil ?_; (simp only [go_sem, simprocAttr, List.length_map]); refine hK _ ?_; clear hK K))
      refine awp_seq_k fun K hK => ?_
      refine awp_if (decide ((j : Int) < (ll.length : Int))) rfl (fun hc => ?_) (fun hc => ?_)
      · refine awp_skip ?_
        refine hK _ ?_; clear hK K
        refine awp_seq_k fun K hK => ?_
        refine awp_block ?_
        (refine awp_reg_seq [19, 33, 35, 38, 41, 45, 154, 155] fun K hK => ?_; (repeat' ((refine al_r rfl fun K' hK' => ?_); (repeat (simp only [go_sem, simprocAttr, List.length_map])); ((refine hK' _ _ ?_) <;> clear hK' K'))); all_goals (refine al_nil ?_; (simp only [go_sem, simprocAttr, List.length_map]); refine hK _ ?_; clear hK K))
        have hj2 : j < ll.length := by simpa using hc
        obtain ⟨x, hx⟩ := lt_get (l := lq) (i := j) (by omega)
        have hjn : (0 : Int) ≤ (j : Int) := Int.natCast_nonneg j
        have hjl : (j : Int) < (ll.length : Int) := by omega
        have hjx : IntKind.i64.wrap ((j : Int) + 1) = ((j + 1 : Nat) : Int) := by rw [Go.Ab.wrap_small (by omega) (by omega)]; rfl
        have hxw : (lq.map irow)[j]? = some (irow x) := by rw [List.getElem?_map, hx]; rfl
        have hset2 : (lq.map irow).set j [PV.lit (Value.int IntKind.i64 (IntKind.i64.wrap (x + 1)))] = (lq.set j (IntKind.i64.wrap (x + 1))).map irow := by rw [List.map_set]

        (refine awp_reg_end [19, 33, 35, 38, 41, 154, 155] fun K hK => ?_; (repeat' ((first | refine al_r rfl fun K' hK' => ?_ | refine al_d rfl fun K' hK' => ?_); (repeat (first | (simp only [go_sem, simprocAttr, hxw, hjn, hjl, hjx, hset2, Int.toNat_natCast, Nat.zero_add, List.length_map]) | refine AS.mk ?_)); ((first | refine hK' _ _ ?_ | refine ⟨?_, hK' _ _ ?_⟩) <;> clear hK' K' <;> (first | (show alist _ _ _ _ _ _; skip) | (simp; done))))); all_goals (refine al_nil ?_; (simp only [go_sem, simprocAttr, hxw, hjn, hjl, hjx, hset2, Int.toNat_natCast, Nat.zero_add, List.length_map]); refine hK _ ?_; clear hK K))
        refine hK _ ?_; clear hK K
        (refine awp_reg_end [19, 33, 35, 38, 41, 154, 155] fun K hK => ?_; (repeat' ((refine al_r rfl fun K' hK' => ?_); (repeat (simp only [go_sem, simprocAttr, hxw, hjn, hjl, hjx, hset2, Int.toNat_natCast, Nat.zero_add, List.length_map])); ((refine hK' _ _ ?_) <;> clear hK' K'))); all_goals (refine al_nil ?_; (simp only [go_sem, simprocAttr, hxw, hjn, hjl, hjx, hset2, Int.toNat_natCast, Nat.zero_add, List.length_map]); refine hK _ ?_; clear hK K))
        exact ⟨ll.length - (j + 1), by omega, j + 1, lq.set j (IntKind.i64.wrap (x + 1)), by omega, rfl, by rw [List.length_set]; exact hlq, rfl⟩

      · refine awp_exit ?_
        clear hK
        refine hK _ ?_; clear hK K
        refine awp_seq_k fun K hK => ?_
        (refine awp_frz [19, 35, 38, 41] [2, 3] (by decide) (by (simp; done)) ?_; simp only [go_sem, simprocAttr, List.length_map])
        (refine awp_reg_seq [19, 41, 168, 169] fun K hK => ?_; (repeat' ((refine al_r rfl fun K' hK' => ?_); (repeat (simp only [go_sem, simprocAttr, List.length_map])); ((refine hK' _ _ ?_) <;> clear hK' K'))); all_goals (refine al_nil ?_; (simp only [go_sem, simprocAttr, List.length_map]); refine hK _ ?_; clear hK K))
        refine awp_block ?_
        -- loop 3 head [19, 41, 168, 169]
        refine awp_loop (fun m st => ∃ (i : Nat) (rows : List (List Blob)), i ≤ 2 ∧ m = 2 - i ∧ rows.map List.length = [L1.length, L2.length] ∧ st = ⟨ofL [(19, (.fn 46 [.rd [.sl (h.map wrow)] 0, .rd [.sl (h.map wrow)] 0, .rd [.sl (s.map Blob.row)] 0, .rd [.sl (s.map Blob.row)] 0, .rd [.sl (g.map wrow), .lit (.int .i64 old), .sl (late.map irow)] 0, .rd [.sl (g.map wrow)] 0, .rd [.sl (late.map irow)] 0])), (41, bD true), (168, .agg [.ref 0 0 L1.length, .ref 1 0 L2.length]), (169, iD i)], rows.map fB, 0⟩) ⟨_, 0, [L1, L2], Nat.zero_le _, rfl, rfl, rfl⟩ ?_
        rintro m st ⟨i, rows, hi, hm, hrl2, rfl⟩
        (refine awp_reg_seq [19, 41, 168, 169, 170] fun K hK => ?_; (repeat' ((refine al_r rfl fun K' hK' => ?_); (repeat (simp only [go_sem, simprocAttr, List.length_map])); ((refine hK' _ _ ?_) <;> clear hK' K'))); all_goals (refine al_nil ?_; (simp only [go_sem, simprocAttr, List.length_map]); refine hK _ ?_; clear hK K))
        refine awp_seq_k fun K hK => ?_
        refine awp_if (decide ((i : Int) < 2)) rfl (fun hc => ?_) (fun hc => ?_)
        · refine awp_skip ?_
          refine hK _ ?_; clear hK K
          refine awp_seq_k fun K hK => ?_
          refine awp_block ?_
          have hi2 : i < 2 := by simp at hc; omega
          obtain ⟨n, hget, hn⟩ : ∃ n : Nat, ([.ref 0 0 L1.length, .ref 1 0 L2.length] : List D)[i]? = some (.ref i 0 n) ∧ ([L1.length, L2.length] : List Nat)[i]? = some n := by
            match i, hi2 with
            | 0, _ => exact ⟨_, rfl, rfl⟩
            | 1, _ => exact ⟨_, rfl, rfl⟩
          have hn4 : n ≤ 4000 := by
            have := List.mem_of_getElem? hn
            simp only [List.mem_cons, List.not_mem_nil, or_false] at this
            omega
          have hrow : ∀ rs : List (List Blob), rs.map List.length = [L1.length, L2.length] → ∃ l, rs[i]? = some l ∧ l.length = n ∧ (rs.map fB)[i]? = some (fB l) := fun rs hrs => by
            rw [← hrs, List.getElem?_map] at hn
            cases hx : rs[i]? with
            | none => rw [hx] at hn; cases hn
            | some l =>
              rw [hx] at hn
              exact ⟨l, rfl, by simpa using hn, by rw [List.getElem?_map, hx]; rfl⟩
          obtain ⟨l0, _, _, hob0⟩ := hrow rows hrl2
          have hnn : (0 : Int) ≤ (i : Int) := Int.natCast_nonneg i
          have hi3 : (i : Int) < ((2 : Nat) : Int) := by omega
          have hnx : IntKind.i64.wrap ((i : Int) + 1) = ((i + 1 : Nat) : Int) := by rw [Go.Ab.wrap_small (by omega) (by omega)]; rfl

          (refine awp_reg_seq [19, 41, 47, 168, 169] fun K hK => ?_; (repeat' ((refine al_r rfl fun K' hK' => ?_); (repeat (simp only [go_sem, simprocAttr, hget, hob0, fB, hnn, hi3, hnx, Int.toNat_natCast, Nat.mul_one, List.length_map])); ((first | refine hK' _ _ ?_ | refine ⟨?_, hK' _ _ ?_⟩) <;> clear hK' K' <;> (first | (show alist _ _ _ _ _ _; skip) | assumption)))); all_goals (refine al_nil ?_; (simp only [go_sem, simprocAttr, hget, hob0, fB, hnn, hi3, hnx, Int.toNat_natCast, Nat.mul_one, List.length_map]); refine hK _ ?_; clear hK K))
          (refine awp_reg_seq [19, 41, 47, 168, 169, 173, 174] fun K hK => ?_; (repeat' ((refine al_r rfl fun K' hK' => ?_); (repeat (simp only [go_sem, simprocAttr, hget, hob0, fB, hnn, hi3, hnx, Int.toNat_natCast, Nat.mul_one, List.length_map])); ((first | refine hK' _ _ ?_ | refine ⟨?_, hK' _ _ ?_⟩) <;> clear hK' K' <;> (first | (show alist _ _ _ _ _ _; skip) | (intro s hs; cases hs; done))))); all_goals (refine al_nil ?_; (simp only [go_sem, simprocAttr, hget, hob0, fB, hnn, hi3, hnx, Int.toNat_natCast, Nat.mul_one, List.length_map]); refine hK _ ?_; clear hK K))
          refine awp_block ?_
          -- loop 4 head [19, 41, 47, 168, 169, 173, 174]
          refine awp_loop (fun m st => ∃ (j : Nat) (rs : List (List Blob)), j ≤ n ∧ m = n - j ∧ rs.map List.length = [L1.length, L2.length] ∧ st = ⟨ofL [(19, (.fn 46 [.rd [.sl (h.map wrow)] 0, .rd [.sl (h.map wrow)] 0, .rd [.sl (s.map Blob.row)] 0, .rd [.sl (s.map Blob.row)] 0, .rd [.sl (g.map wrow), .lit (.int .i64 old), .sl (late.map irow)] 0, .rd [.sl (g.map wrow)] 0, .rd [.sl (late.map irow)] 0])), (41, bD true), (47, .ref i 0 n), (168, .agg [.ref 0 0 L1.length, .ref 1 0 L2.length]), (169, iD i), (173, iD n), (174, iD j)], rs.map fB, 0⟩) ⟨_, 0, rows, Nat.zero_le _, rfl, hrl2, rfl⟩ ?_
          rintro m st ⟨j, rs, hj, hm2, hrs, rfl⟩
          (refine awp_reg_seq [19, 41, 47, 168, 169, 173, 174, 175] fun K hK => ?_; (repeat' ((refine al_r rfl fun K' hK' => ?_); (repeat (simp only [go_sem, simprocAttr, hget, hob0, fB, hnn, hi3, hnx, Int.toNat_natCast, Nat.mul_one, List.length_map])); ((refine hK' _ _ ?_) <;> clear hK' K'))); all_goals (refine al_nil ?_; (simp only [go_sem, simprocAttr, hget, hob0, fB, hnn, hi3, hnx, Int.toNat_natCast, Nat.mul_one, List.length_map]); refine hK _ ?_; clear hK K))
          refine awp_seq_k fun K hK => ?_
          refine awp_if (decide ((j : Int) < (n : Int))) rfl (fun hc => ?_) (fun hc => ?_)
          · refine awp_skip ?_
            refine hK _ ?_; clear hK K
            refine awp_seq_k fun K hK => ?_
            refine awp_block ?_
            (refine awp_reg_seq [19, 41, 47, 48, 168, 169, 173, 174] fun K hK => ?_; (repeat' ((refine al_r rfl fun K' hK' => ?_); (repeat (simp only [go_sem, simprocAttr, hget, hob0, fB, hnn, hi3, hnx, Int.toNat_natCast, Nat.mul_one, List.length_map])); ((refine hK' _ _ ?_) <;> clear hK' K'))); all_goals (refine al_nil ?_; (simp only [go_sem, simprocAttr, hget, hob0, fB, hnn, hi3, hnx, Int.toNat_natCast, Nat.mul_one, List.length_map]); refine hK _ ?_; clear hK K))
            have hj2 : j < n := by simpa using hc
            obtain ⟨l, hl1, hl2, hob⟩ := hrow rs hrs
            obtain ⟨x, hx⟩ := lt_get (l := l) (i := j) (by omega)
            have hjn : (0 : Int) ≤ (j : Int) := Int.natCast_nonneg j
            have hjl : (j : Int) < (n : Int) := by omega
            have hjx : IntKind.i64.wrap ((j : Int) + 1) = ((j + 1 : Nat) : Int) := by rw [Go.Ab.wrap_small (by omega) (by omega)]; rfl
            have hxw : (l.map Blob.row)[j]? = some [.lit (.string x.text), .lit (.int .i64 x.many)] := by rw [List.getElem?_map, hx]; rfl
            have hsetO : (rs.map fB).set i (Ob.row 2 ((l.map Blob.row).set j [PV.lit (Value.string x.text), PV.lit (Value.int IntKind.i64 (IntKind.i64.wrap (x.many + 1)))])) = (rs.set i (l.set j ⟨x.text, IntKind.i64.wrap (x.many + 1)⟩)).map fB := by
              rw [List.map_set, set_rowB]
              rfl

            (refine awp_reg_end [19, 41, 47, 168, 169, 173, 174] fun K hK => ?_; (repeat' ((first | refine al_r rfl fun K' hK' => ?_ | refine al_d rfl fun K' hK' => ?_); (repeat (first | (simp only [go_sem, simprocAttr, hob, hxw, fB, hjn, hjl, hjx, hsetO, Int.toNat_natCast, Nat.zero_add, List.length_map]) | refine AS.mk ?_)); ((first | refine hK' _ _ ?_ | refine ⟨?_, hK' _ _ ?_⟩) <;> clear hK' K' <;> (first | (show alist _ _ _ _ _ _; skip) | (simp; done))))); all_goals (refine al_nil ?_; (simp only [go_sem, simprocAttr, hob, hxw, fB, hjn, hjl, hjx, hsetO, Int.toNat_natCast, Nat.zero_add, List.length_map]); refine hK _ ?_; clear hK K))
            refine hK _ ?_; clear hK K
            (refine awp_reg_end [19, 41, 47, 168, 169, 173, 174] fun K hK => ?_; (repeat' ((refine al_r rfl fun K' hK' => ?_); (repeat (simp only [go_sem, simprocAttr, hob, hxw, fB, hjn, hjl, hjx, hsetO, Int.toNat_natCast, Nat.zero_add, List.length_map])); ((refine hK' _ _ ?_) <;> clear hK' K'))); all_goals (refine al_nil ?_; (simp only [go_sem, simprocAttr, hob, hxw, fB, hjn, hjl, hjx, hsetO, Int.toNat_natCast, Nat.zero_add, List.length_map]); refine hK _ ?_; clear hK K))
            exact ⟨n - (j + 1), by omega, j + 1, rs.set i (l.set j ⟨x.text, IntKind.i64.wrap (x.many + 1)⟩), by omega, rfl, by rw [List.map_set, List.length_set, ← hrs]; exact set_same (by rw [List.getElem?_map, hl1]; rfl), rfl⟩

          · refine awp_exit ?_
            clear hK
            refine hK _ ?_; clear hK K
            (refine awp_reg_end [19, 41, 168, 169] fun K hK => ?_; (repeat' ((refine al_r rfl fun K' hK' => ?_); (repeat (simp only [go_sem, simprocAttr, hnx, List.length_map])); ((refine hK' _ _ ?_) <;> clear hK' K'))); all_goals (refine al_nil ?_; (simp only [go_sem, simprocAttr, hnx, List.length_map]); refine hK _ ?_; clear hK K))
            exact ⟨2 - (i + 1), by omega, i + 1, rs, by omega, rfl, hrs, rfl⟩

        · refine awp_exit ?_
          clear hK
          refine hK _ ?_; clear hK K
          (refine awp_reg_seq [14] fun K hK => ?_; (repeat' ((first | refine al_r rfl fun K' hK' => ?_ | refine al_t rfl rfl fun K' hK' => ?_); (repeat (simp only [go_sem, simprocAttr, List.length_map])); (first | ((refine hK' _ _ ?_) <;> clear hK' K') | ((show AC _ _ (D.fn 46 _) _ _); refine acall_p (f := 46) (e := rfl) (hr := rfl) (k := hK' _ _ ?_) (hc := Try.call46) (h := hsame); clear hK' K')))); all_goals (refine al_nil ?_; (simp only [go_sem, simprocAttr, List.length_map]); refine hK _ ?_; clear hK K))
          all_goals (refine awp_ret ?_; (refine hR _ _ (.inl rfl) rfl ?_); (simp only [go_sem, simprocAttr, List.length_map, *, Bool.and_true, Bool.and_false, Bool.true_and, Bool.false_and, Bool.or_true, Bool.true_or, Bool.or_false, Bool.false_or, Bool.not_true, Bool.not_false, Bool.false_eq_true]; done))
end Go.Proofs.Ytagphggcdmjlpaa.B

/- HeapOwn: the contract. -/
namespace Go.Proofs.Ytagphggcdmjlpaa.B
open Go.Ab Go.Proofs.Ytagphggcdmjlpaa.T Go.Proofs.Ytagphggcdmjlpaa.P


theorem ownBad (h g late roots : List Int) (old at_ : Int) (s : List Blob) (text : ByteArray) (o : P.Obj) (hr40 : decide ((roots.length : Int) > 40) = true) :
    ACallP Try.prog 14 [words h, objD o, agesD g old late, words roots, iD at_, blobs s, sD text] (bD true) := by
  refine acallp_fn [14] Try.func14 rfl rfl Try.ntmps14 (by simp) fun R hR => ?_
  (refine awp_reg_seq [3, 4, 6, 7, 8, 9, 12] fun K hK => ?_; (repeat' ((refine al_r rfl fun K' hK' => ?_); (repeat (simp only [go_sem, simprocAttr, List.length_map, hr40])); ((refine hK' _ _ ?_) <;> clear hK' K'))); all_goals (refine al_nil ?_; (simp only [go_sem, simprocAttr, List.length_map, hr40]); refine hK _ ?_; clear hK K))
  (refine awp_frz [3, 4, 6, 7, 8, 9, 12] [] (by decide) (by (simp; done)) ?_; simp only [go_sem, simprocAttr, List.length_map, hr40])
  refine awp_seq_k fun K hK => ?_
  (refine awp_reg_seq [3, 4, 6, 7, 8, 9, 12, 55] fun K hK => ?_; (repeat' ((first | refine al_r rfl fun K' hK' => ?_ | refine al_t rfl rfl fun K' hK' => ?_); (repeat (simp only [go_sem, simprocAttr, List.length_map, hr40])); (first | ((first | refine hK' _ _ ?_ | refine ⟨?_, hK' _ _ ?_⟩) <;> clear hK' K' <;> (first | (show alist _ _ _ _ _ _; skip) | (intro s hs; cases hs; done))) | ((show AC _ _ (D.fn 16 _) _ _); refine acall_p (f := 16) (e := rfl) (hr := rfl) (k := hK' _ _ ?_) (hc := Try.call16) (h := heaps); clear hK' K')))); all_goals (refine al_nil ?_; (simp only [go_sem, simprocAttr, List.length_map, hr40]); refine hK _ ?_; clear hK K))
  refine awp_if (_) rfl (fun hc => ?_) (fun hc => ?_)
  · (refine awp_reg_seq [14] fun K hK => ?_; (repeat' ((refine al_r rfl fun K' hK' => ?_); (repeat (simp only [go_sem, simprocAttr, List.length_map, hr40])); (first | ((refine hK' _ _ ?_) <;> clear hK' K') | ((show AC _ _ (D.fn 16 _) _ _); refine acall_p (f := 16) (e := rfl) (hr := rfl) (k := hK' _ _ ?_) (hc := Try.call16) (h := heaps); clear hK' K')))); all_goals (refine al_nil ?_; (simp only [go_sem, simprocAttr, List.length_map, hr40]); refine hK _ ?_; clear hK K))
    all_goals (refine awp_ret ?_; (refine hR _ _ (.inl rfl) rfl ?_); (simp only [go_sem, simprocAttr, List.length_map, hr40, *, Bool.and_true, Bool.and_false, Bool.true_and, Bool.false_and, Bool.or_true, Bool.true_or, Bool.or_false, Bool.false_or, Bool.not_true, Bool.not_false, Bool.false_eq_true]; done))
  · cases hc

theorem heapOwn (h g late roots : List Int) (old at_ : Int) (s : List Blob) (text : ByteArray) (o : P.Obj) (hh : h.length ≤ 17592186044415) (hg : g.length ≤ 17592186044415) (hl : late.length ≤ 17592186044415) (hs : s.length ≤ 5864062014805)
    (hho : ∀ w, w ∈ h → WordOk w) (hgo : ∀ w, w ∈ g → WordOk w) : ACallP Try.prog 14 [words h, objD o, agesD g old late, words roots, iD at_, blobs s, sD text] (bD true) := by
  have m1 : h.length ≤ maxLen := by simp only [maxLen]; omega
  have m2 : g.length ≤ maxLen := by simp only [maxLen]; omega
  have m3 : late.length ≤ maxLen := by simp only [maxLen]; omega
  have m4 : s.length ≤ maxLen := by simp only [maxLen]; omega
  cases hr40 : decide ((roots.length : Int) > 40) with
  | true => exact ownBad h g late roots old at_ s text o hr40
  | false =>
    have hrl : roots.length ≤ 40 := by simp at hr40; omega
    have c1 := cloneWs (h.map wrow) (wrow1 h) (by simpa using hh)
    have c3 := cloneS (s.map Blob.row) (rows2 s) (by simpa using hs)
    have c6 := cloneWs (g.map wrow) (wrow1 g) (by simpa using hg)
    have c9 := cloneIs (late.map irow) (irow1 late) (by simpa using hl)
    rw [List.length_map] at c1 c3 c6 c9
    obtain ⟨lp, pa, pe, b1, hput⟩ := putW h o m1
    obtain ⟨wd, hwd⟩ : ∃ wd, IntKind.u64.wrap (IntKind.i64.wrap ((IntKind.i64.wrap (8 * (if 0 > at_ then 0 else at_))).tmod 4096 + 4)) = wd := ⟨_, rfl⟩
    obtain ⟨lo1, lo2, ox, oe, b2, b3, hover⟩ := overW h g wd m1 m2 hho hgo
    obtain ⟨lm, mn, me, mr, b4, hmin⟩ := minorW g old late roots m2 hgo m3 hrl
    obtain ⟨lj, jn, je, jr, b5, hmaj⟩ := majorW g old late roots m2 hgo m3 hrl
    obtain ⟨ls, ll, sn, se, b6, b7, hset⟩ := setW g old at_ 0 late m2 hgo m3 ⟨by decide, by decide⟩
    exact ownGood h g late roots old at_ s text o hrl c1 c3 c6 c9 (sameC h g old late s m1 m2 m3 m4) lp lo1 lo2 lm lj ls ll pa pe ox oe mn me jn je sn se mr jr hput wd hwd hover hmin hmaj hset (holdW s text m4 hs) (letW s at_ m4 hs) b1 b2 b3 b4 b5 b6 b7

theorem wf_wordB {w : Int} (h : (Lit.int .u64 w).wf = true) : WordOk w := by
  simp [Lit.wf, IntKind.min, IntKind.max, IntKind.signed, IntKind.bits] at h
  exact ⟨by omega, by omega⟩

/-- The same, of data as the shapes tell it. -/
theorem heapOwnF (l0 : List Int) (r1 : P4.Ob1) (r2 : P4.Ages) (l3 : List Int) (a4 : Int) (l5 : List P4.Blo) (s6 : ByteArray) (k0 : l0.length * 8 ≤ 140737488351232) (k0' : ∀ y, y ∈ l0 → (Lit.int .u64 y).wf = true) (k2 : r2.ok) (k5 : l5.length * 24 ≤ 140737488351232) :
    ACallP Try.prog 14 [.p (.sl (l0.map fun x => [.lit (.int .u64 x)])), .agg (r1.row.map .p), .agg (r2.row.map .p), .p (.sl (l3.map fun x => [.lit (.int .u64 x)])), iD a4, .p (.sl (l5.map P4.Blo.row)), .p (.lit (.string s6))] (bD true) := by
  have hB : l5.map P4.Blo.row = (l5.map fun b => (⟨b.text, b.many⟩ : Blob)).map Blob.row := by rw [List.map_map]; rfl
  rw [hB]
  exact heapOwn l0 r2.heap r2.late l3 r2.old a4 _ s6 ⟨r1.at_, r1.kind, r1.num, r1.text, r1.parts⟩ (by omega) (by have := k2.1.2.2; omega) (by have := k2.2.2.2.2; omega) (by simp; omega) (fun w hw => wf_wordB (k0' w hw)) (fun w hw => wf_wordB (k2.1.2.1 w hw))
end Go.Proofs.Ytagphggcdmjlpaa.B

