/- Texts of this proof, joined: R19. -/
import Derived.Test.YtagphggcdmjlpaaKCarryShares4
set_option linter.unusedSimpArgs false
set_option linter.unusedVariables false
set_option maxHeartbeats 1000000
/- CarryShares: the walk. -/
namespace Go.Proofs.Ytagphggcdmjlpaa.P
open Go.Ab Go.Proofs.Ytagphggcdmjlpaa.T


theorem sharesBad (g t : List Int) (w e : Int) (he : (e != 0) = true) (hov : ACallP Try.prog 27 [words g, words t, wD w] (.tup [words [], words [], wD 0, iD e])) : ACallP Try.prog 6 [words g, words t, wD w] (bD true) := by
  refine acallp_fn [6] Try.func6 rfl rfl Try.ntmps6 (by simp) fun R hR => ?_
  (refine awp_reg_seq [0, 1, 2] fun K hK => ?_; (repeat' ((refine al_r rfl fun K' hK' => ?_); (repeat (simp only [go_sem, simprocAttr, he, List.length_nil, beq_self_eq_true])); ((refine hK' _ _ ?_) <;> clear hK' K'))); all_goals (refine al_nil ?_; (simp only [go_sem, simprocAttr, he, List.length_nil, beq_self_eq_true]); refine hK _ ?_; clear hK K))
  (refine awp_reg_seq [0, 1, 2, 8, 9, 10] fun K hK => ?_; (repeat' ((refine al_r rfl fun K' hK' => ?_); (repeat (simp only [go_sem, simprocAttr, he, List.length_nil, beq_self_eq_true])); (first | ((refine hK' _ _ ?_) <;> clear hK' K') | ((show AC _ _ (D.fn 27 _) _ _); refine acall_p (f := 27) (e := rfl) (hr := rfl) (k := hK' _ _ ?_) (hc := Try.call27) (h := hov); clear hK' K')))); all_goals (refine al_nil ?_; (simp only [go_sem, simprocAttr, he, List.length_nil, beq_self_eq_true]); refine hK _ ?_; clear hK K))
  refine awp_seq_k fun K hK => ?_
  (refine awp_reg_tov [0, 1, 2, 8, 9, 30] [(0, words g), (1, words t), (2, wD w), (8, words []), (9, wD 0), (30, bD true)] (h := ?_) (k := ?_); · ((repeat' ((first | refine al_r rfl fun K' hK' => ?_ | refine al_t rfl rfl fun K' hK' => ?_); (repeat (simp only [go_sem, simprocAttr, he, List.length_nil, beq_self_eq_true])); (first | ((refine hK' _ _ ?_) <;> clear hK' K') | ((show AC _ _ (D.fn 28 _) _ _); refine acall_p (f := 28) (e := rfl) (hr := rfl) (k := hK' _ _ ?_) (hc := Try.call28) (h := carriesT); clear hK' K')))); all_goals (refine al_nil ?_; simp only [go_sem, simprocAttr, he, List.length_nil, beq_self_eq_true, *, Bool.and_true, Bool.and_false, Bool.true_and, Bool.false_and, Bool.or_true, Bool.true_or, Bool.or_false, Bool.false_or, Bool.not_true, Bool.not_false, Bool.false_eq_true]))); intro K hK; (simp only [go_sem, simprocAttr, he, List.length_nil, beq_self_eq_true]); refine hK _ ?_; clear hK K
  refine awp_if (_) rfl (fun hc => ?_) (fun hc => ?_)
  · (refine awp_reg_seq [6] fun K hK => ?_; (repeat' ((first | refine al_r rfl fun K' hK' => ?_ | refine al_t rfl rfl fun K' hK' => ?_); (repeat (simp only [go_sem, simprocAttr, he, List.length_nil, beq_self_eq_true])); (first | ((first | refine hK' _ _ ?_ | refine ⟨?_, hK' _ _ ?_⟩) <;> clear hK' K' <;> (first | (show alist _ _ _ _ _ _; skip) | (intro s hs; cases hs; done))) | ((show AC _ _ (D.fn 28 _) _ _); refine acall_p (f := 28) (e := rfl) (hr := rfl) (k := hK' _ _ ?_) (hc := Try.call28) (h := carriesT); clear hK' K')))); all_goals (refine al_nil ?_; (simp only [go_sem, simprocAttr, he, List.length_nil, beq_self_eq_true]); refine hK _ ?_; clear hK K))
    all_goals (refine awp_ret ?_; (refine hR _ _ (.inl rfl) rfl ?_); (simp only [go_sem, simprocAttr, he, List.length_nil, beq_self_eq_true, *, Bool.and_true, Bool.and_false, Bool.true_and, Bool.false_and, Bool.or_true, Bool.true_or, Bool.or_false, Bool.false_or, Bool.not_true, Bool.not_false, Bool.false_eq_true]; done))
  · cases hc

/-- What was carried over. -/
theorem shr_of {g : List Int} {L : List Obj} {w x : Int} {S : CT} (hg4 : g.length ≤ 4000) (hgo : ∀ w, w ∈ g → WordOk w) (hL : Placed L) (h4 : (flat L).length ≤ 4000) (hw : wordK g 40 (g, flat L, []) w = ((x, 0), S)) :
    ShrK g S.2.1 S.2.2 w ∧ x = phiK S.2.2 w ∧ ∃ T, Placed T ∧ S.2.1 = flat T ∧ (flat T).length ≤ 4000 ∧ T.length = L.length + S.2.2.length := by
  obtain ⟨a1, a2, a3, a4, a5, a6⟩ := word_inv hg4 hgo 40 _ w x S (start_inv hL h4) hw
  obtain ⟨N, n1, n2, n3, n4, n5⟩ := a1.ex
  refine ⟨⟨hg4, hgo, by rw [n2]; exact n3, ⟨L ++ N, n1, n2, fun a y hy => ?_⟩, a1.inj, a1.nd, a3, fun a y hy => a6 a y hy rfl⟩, a4, L ++ N, n1, n2, n3, by rw [List.length_append, n4]⟩
  obtain ⟨_, t, q, o, q1, q2⟩ := n5 a y hy
  exact ⟨t, q, o, List.mem_append_right _ q1, q2⟩


theorem sharesGood (g t b : List Int) (w x : Int) (lb lt : List Obj) (mv : List (Int × Int)) (left : List Int) (hlb : lb.length = lt.length + mv.length) (hlt : lt.length ≤ 4000) (hml : mv.length ≤ 4000)
    (hov : ACalls Try.prog 27 [words g, words t, wD w] [] (fun r obs' => r = .tup [.ref 0 0 left.length, .ref 1 0 b.length, wD x, iD 0] ∧ obs' = [.row 1 (left.map wrow), .row 1 (b.map wrow)]))
    (hob1 : ACallP Try.prog 15 [words b] (.tup [objs lb, iD 0])) (hob2 : ACallP Try.prog 15 [words t] (.tup [objs lt, iD 0]))
    (hal : ACalls Try.prog 29 [words g, words b, .ref 1 0 1, .ref 2 0 1, .mp 0] [.map (emb []), .row 1 [wrow w], .row 1 [wrow x]] (fun r obs' => ∃ M, r = bD true ∧ obs' = [.map (emb M), .row 1 [wrow w], .row 1 [wrow x]] ∧ M.length = mv.length)) :
    ACallP Try.prog 6 [words g, words t, wD w] (bD true) := by
  have htb : List.take b.length (b.map wrow) = b.map wrow := List.take_of_length_le (by simp)
  refine acallp_fn [6] Try.func6 rfl rfl Try.ntmps6 (by simp) fun R hR => ?_
  (refine awp_reg_seq [0, 1, 2] fun K hK => ?_; (repeat' ((refine al_r rfl fun K' hK' => ?_); (repeat (simp only [go_sem, simprocAttr, bne_self_eq_false])); ((refine hK' _ _ ?_) <;> clear hK' K'))); all_goals (refine al_nil ?_; (simp only [go_sem, simprocAttr, bne_self_eq_false]); refine hK _ ?_; clear hK K))

  (refine awp_reg_seq [0, 1, 2, 8, 9, 10] fun K hK => ?_; (repeat' ((refine al_r rfl fun K' hK' => ?_); (repeat (simp only [go_sem, simprocAttr, htb, List.length_map])); (first | ((refine hK' _ _ ?_) <;> clear hK' K') | ((show AC _ _ (D.fn 27 _) _ _); refine acall_new (f := 27) Try.call27 hov rfl ?_; rintro r obs' ⟨rfl, rfl⟩; (simp only [go_sem, simprocAttr, htb, List.length_map]); refine hK' _ _ ?_; clear hK' K')))); all_goals (refine al_nil ?_; (simp only [go_sem, simprocAttr, htb, List.length_map]); refine hK _ ?_; clear hK K))
  (refine awp_frz [0, 1, 2, 8, 9, 10] [] (by decide) (by (simp; done)) ?_; simp only [go_sem, simprocAttr, htb, List.length_map])
  refine awp_seq_k fun K hK => ?_

  (refine awp_reg_seq [0, 1, 2, 8, 9, 30] fun K hK => ?_; (repeat' ((first | refine al_r rfl fun K' hK' => ?_ | refine al_t rfl rfl fun K' hK' => ?_); (repeat (simp only [go_sem, simprocAttr, htb, bne_self_eq_false])); (first | ((refine hK' _ _ ?_) <;> clear hK' K') | ((show AC _ _ (D.fn 28 _) _ _); refine acall_p (f := 28) (e := rfl) (hr := rfl) (k := hK' _ _ ?_) (hc := Try.call28) (h := carriesT); clear hK' K')))); all_goals (refine al_nil ?_; (simp only [go_sem, simprocAttr, htb, bne_self_eq_false]); refine hK _ ?_; clear hK K))
  refine awp_if (_) rfl (fun hc => ?_) (fun hc => ?_)
  · cases hc
  · refine awp_skip ?_
    refine hK _ ?_; clear hK K
    (refine awp_reg_seq [0, 1, 2, 8, 9, 11] fun K hK => ?_; (repeat' ((refine al_r rfl fun K' hK' => ?_); (repeat (simp only [go_sem, simprocAttr, htb, bne_self_eq_false])); ((refine hK' _ _ ?_) <;> clear hK' K'))); all_goals (refine al_nil ?_; (simp only [go_sem, simprocAttr, htb, bne_self_eq_false]); refine hK _ ?_; clear hK K))
    (refine awp_reg_seq [0, 1, 2, 8, 9, 11, 12, 13] fun K hK => ?_; (repeat' ((refine al_r rfl fun K' hK' => ?_); (repeat (simp only [go_sem, simprocAttr, htb, bne_self_eq_false])); (first | ((refine hK' _ _ ?_) <;> clear hK' K') | ((show AC _ _ (D.fn 15 _) _ _); refine acall_p (f := 15) (e := rfl) (hr := rfl) (k := hK' _ _ ?_) (hc := Try.call15) (h := hob1); clear hK' K')))); all_goals (refine al_nil ?_; (simp only [go_sem, simprocAttr, htb, bne_self_eq_false]); refine hK _ ?_; clear hK K))
    (refine awp_reg_seq [0, 2, 8, 9, 11, 12, 13, 14, 15] fun K hK => ?_; (repeat' ((refine al_r rfl fun K' hK' => ?_); (repeat (simp only [go_sem, simprocAttr, htb, bne_self_eq_false])); (first | ((refine hK' _ _ ?_) <;> clear hK' K') | ((show AC _ _ (D.fn 15 _) _ _); refine acall_p (f := 15) (e := rfl) (hr := rfl) (k := hK' _ _ ?_) (hc := Try.call15) (h := hob2); clear hK' K')))); all_goals (refine al_nil ?_; (simp only [go_sem, simprocAttr, htb, bne_self_eq_false]); refine hK _ ?_; clear hK K))
    have hlw : IntKind.i64.wrap ((lt.length : Int) + (mv.length : Int)) = (lb.length : Int) := by rw [Go.Ab.wrap_small (by omega) (by omega)]; omega

    refine awp_reg_mid 20 [6] fun K hK => ?_
    simp only [List.take_succ_cons, List.take_zero, List.drop_succ_cons, List.drop_zero]
    (repeat' ((first | refine al_r rfl fun K' hK' => ?_ | refine al_t rfl rfl fun K' hK' => ?_); (repeat (simp only [go_sem, simprocAttr, hlw, List.length_map, beq_self_eq_true, bne_self_eq_false])); (first | ((first | refine hK' _ _ ?_ | refine ⟨?_, hK' _ _ ?_⟩) <;> clear hK' K' <;> (first | (show alist _ _ _ _ _ _; skip) | (intro s hs; cases hs; done))) | ((show AC _ _ (D.fn 20 _) _ _); refine acall_w [0] (by decide) (by simp) (f := 20) (e := rfl) (hr := fun _ => rfl) (k := hK' _ _ ?_) (hc := Try.call20) (h := good00); clear hK' K') | ((show AC _ _ (D.fn 29 _) _ _); refine acall_m (f := 29) [0, 1, 2] Try.call29 hal rfl rfl (by decide) (by simp) ?_; rintro r obs' ⟨M, rfl, rfl, hM⟩; refine ⟨by simp, ?_⟩; (simp only [go_sem, simprocAttr, hlw, List.length_map, beq_self_eq_true, bne_self_eq_false]); refine hK' _ _ ?_; clear hK' K'))))
    refine al_nil ?_
    refine aops_len_map (k := 3) (e := 3) rfl rfl rfl (by decide) rfl rfl rfl (by kernel_rfl) ?_
    have hMl : ((emb M).length : Int) = mv.length := by rw [← hM]; unfold emb; simp
    rw [hMl]
    refine aops_al ?_
    repeat' ((first | refine al_r rfl fun K' hK' => ?_ | refine al_t rfl rfl fun K' hK' => ?_); (repeat (simp only [go_sem, simprocAttr, hlw, List.length_map, beq_self_eq_true, bne_self_eq_false])); ((refine hK' _ _ ?_) <;> clear hK' K'))
    all_goals (refine al_nil ?_; (simp only [go_sem, simprocAttr, hlw, List.length_map, beq_self_eq_true, bne_self_eq_false]); refine hK _ ?_; clear hK K)
    all_goals (refine awp_ret ?_; (refine hR _ _ (.inl rfl) rfl ?_); (simp only [go_sem, simprocAttr, hlw, List.length_map, beq_self_eq_true, bne_self_eq_false, *, Bool.and_true, Bool.and_false, Bool.true_and, Bool.false_and, Bool.or_true, Bool.true_or, Bool.or_false, Bool.false_or, Bool.not_true, Bool.not_false, Bool.false_eq_true]; done))

theorem carryShares (g t : List Int) (w : Int) (hgl : g.length ≤ maxLen) (htl : t.length ≤ maxLen) (hgo : ∀ w, w ∈ g → WordOk w) (hto : ∀ w, w ∈ t → WordOk w) : ACallP Try.prog 6 [words g, words t, wD w] (bD true) := by
  rcases overC g t w hgl htl hgo hto with ⟨e, he, hov⟩ | ⟨x, S, h1, h2, hw, hov⟩
  · exact sharesBad g t w e (by simpa using he) hov
  · obtain ⟨hg4, _⟩ := heap_flat hgl hgo h1
    obtain ⟨ht4, htf, htp⟩ := heap_flat htl hto h2
    rw [htf] at hw
    obtain ⟨hs, hx, T, hT, hb, hT4, hTl⟩ := shr_of hg4 hgo htp (by rw [← htf]; exact ht4) hw
    have hal := alike g S.2.1 S.2.2 w hs
    rw [← hx] at hal
    have hob1 := objects S.2.1 (Nat.le_trans hs.b4 (by simp [maxLen])) (by rw [hb]; exact placed_ok hT)
    rw [hb, placed_objs hT hT4, ← hb] at hob1
    have hob2 := objects t htl hto
    rw [h2] at hob2
    have hl4 := hs.len
    have htc : (objsS t).1.length ≤ t.length := by
      have := count_len (L := (objsS t).1)
      rw [← htf] at this
      exact this
    exact sharesGood g t S.2.1 w x T (objsS t).1 S.2.2 S.1 hTl (by omega) (by omega) hov hob1 hob2 hal
end Go.Proofs.Ytagphggcdmjlpaa.P

