/- Texts of this proof, joined: R6, Y17, Y22, R13, R14, Y19, Y23, Y24, H16, Y25, R15, R16, C2, R7, R8, R9, R10, R11, R12, AbQ, C5, C6, R18. -/
import Derived.Test.YtagphggcdmjlpaaKCarryAlike3
import Derived.Laws.Strings
import Derived.Laws.IdiomRangeMap
set_option linter.unusedSimpArgs false
set_option linter.unusedVariables false
set_option maxHeartbeats 1000000
/- Over: contracts. -/
namespace Go.Proofs.Ytagphggcdmjlpaa.P
open Go.Ab Go.Proofs.Ytagphggcdmjlpaa.T


set_option maxRecDepth 100000 in
theorem overOk (g t : List Int) (w : Int) (lg lt : List Obj) (hg4 : g.length ≤ 4000) (ht4 : t.length ≤ 4000) (hog : ACallP Try.prog 15 [words g] (.tup [objs lg, iD 0])) (hot : ACallP Try.prog 15 [words t] (.tup [objs lt, iD 0])) (x : Int) (S : CT)
    (hw : ACalls Try.prog 59 [.ptr 0 0 0, wD w, iD 40] (cpA g (g, t, [])) (fun r obs' => r = .tup [wD x, iD 0] ∧ obs' = cpB g S)) :
    ACalls Try.prog 27 [words g, words t, wD w] [] (fun r obs' => r = .tup [.ref 0 0 S.1.length, .ref 1 0 S.2.1.length, wD x, iD 0] ∧ obs' = [.row 1 (S.1.map wrow), .row 1 (S.2.1.map wrow)]) := by
  have hcg := cloneH (g.map wrow) (wrow1 g) (by simp; omega)
  have hct := cloneH (t.map wrow) (wrow1 t) (by simp; omega)
  rw [List.length_map] at hcg hct
  refine acallm_fn [6, 7, 8, 9] Try.func27 rfl rfl Try.ntmps27 (by simp) (by simp) fun R hR => ?_
  (refine awp_reg_seq [0, 1, 2] fun K hK => ?_; (repeat' ((refine al_r rfl fun K' hK' => ?_); (repeat (simp only [go_sem, simprocAttr, bne_self_eq_false])); ((refine hK' _ _ ?_) <;> clear hK' K'))); all_goals (refine al_nil ?_; (simp only [go_sem, simprocAttr, bne_self_eq_false]); refine hK _ ?_; clear hK K))
  refine awp_seq_k fun K hK => ?_
  (refine awp_reg_seq [0, 1, 2, 19, 20] fun K hK => ?_; (repeat' ((refine al_r rfl fun K' hK' => ?_); (repeat (simp only [go_sem, simprocAttr, bne_self_eq_false])); ((refine hK' _ _ ?_) <;> clear hK' K'))); all_goals (refine al_nil ?_; (simp only [go_sem, simprocAttr, bne_self_eq_false]); refine hK _ ?_; clear hK K))
  refine awp_block ?_
  -- loop 0 head [0, 1, 2, 19, 20]
  refine awp_loop_cut (fun m s => ∃ i : Nat, i ≤ 2 ∧ m = 2 - i ∧ s = ⟨ofL [(0, words g), (1, words t), (2, wD w), (19, .agg [words g, words t]), (20, iD i)], [], 0⟩) ⟨_, 0, Nat.zero_le _, rfl, rfl⟩ ?_
  rintro m s ⟨i, hi, hm, rfl⟩
  (refine awp_reg_seq [0, 1, 2, 19, 20, 21] fun K hK => ?_; (repeat' ((refine al_r rfl fun K' hK' => ?_); (repeat (simp only [go_sem, simprocAttr, bne_self_eq_false])); ((refine hK' _ _ ?_) <;> clear hK' K'))); all_goals (refine al_nil ?_; (simp only [go_sem, simprocAttr, bne_self_eq_false]); refine hK _ ?_; clear hK K))
  refine awp_seq_k fun K hK => ?_
  refine awp_if (decide ((i : Int) < 2)) rfl (fun hc => ?_) (fun hc => ?_)
  · refine awp_skip ?_
    refine hK _ ?_; clear hK K
    refine awp_seq_k fun K hK => ?_
    refine awp_block ?_
    have hi2 : i < 2 := by simp at hc; omega
    obtain ⟨x, l, hget, hob⟩ : ∃ (x : List Int) (l : List Obj), ([words g, words t] : List D)[i]? = some (words x) ∧ ACallP Try.prog 15 [words x] (.tup [objs l, iD 0]) := by
      match i, hi2 with
      | 0, _ => exact ⟨g, lg, rfl, hog⟩
      | 1, _ => exact ⟨t, lt, rfl, hot⟩
    have hnn : (0 : Int) ≤ (i : Int) := Int.natCast_nonneg i
    have hi2' : (i : Int) < ((2 : Nat) : Int) := by omega
    have hnx : IntKind.i64.wrap ((i : Int) + 1) = ((i + 1 : Nat) : Int) := by rw [Go.Ab.wrap_small (by omega) (by omega)]; rfl

    (refine awp_reg_seq [0, 1, 2, 11, 19, 20] fun K hK => ?_; (repeat' ((refine al_r rfl fun K' hK' => ?_); (repeat (simp only [go_sem, simprocAttr, hget, hnn, hi2', hnx, Int.toNat_natCast, Nat.mul_one, bne_self_eq_false])); ((first | refine hK' _ _ ?_ | refine ⟨?_, hK' _ _ ?_⟩) <;> clear hK' K' <;> (first | (show alist _ _ _ _ _ _; skip) | assumption)))); all_goals (refine al_nil ?_; (simp only [go_sem, simprocAttr, hget, hnn, hi2', hnx, Int.toNat_natCast, Nat.mul_one, bne_self_eq_false]); refine hK _ ?_; clear hK K))
    (refine awp_reg_seq [0, 1, 2, 13, 19, 20] fun K hK => ?_; (repeat' ((refine al_r rfl fun K' hK' => ?_); (repeat (simp only [go_sem, simprocAttr, hget, hnn, hi2', hnx, Int.toNat_natCast, Nat.mul_one, bne_self_eq_false])); (first | ((refine hK' _ _ ?_) <;> clear hK' K') | ((show AC _ _ (D.fn 15 _) _ _); refine acall_p (f := 15) (e := rfl) (hr := rfl) (k := hK' _ _ ?_) (hc := Try.call15) (h := hob); clear hK' K')))); all_goals (refine al_nil ?_; (simp only [go_sem, simprocAttr, hget, hnn, hi2', hnx, Int.toNat_natCast, Nat.mul_one, bne_self_eq_false]); refine hK _ ?_; clear hK K))
    (refine awp_reg_seq [0, 1, 2, 13, 19, 20, 29] fun K hK => ?_; (repeat' ((refine al_r rfl fun K' hK' => ?_); (repeat (simp only [go_sem, simprocAttr, hget, hnn, hi2', hnx, Int.toNat_natCast, Nat.mul_one, bne_self_eq_false])); ((refine hK' _ _ ?_) <;> clear hK' K'))); all_goals (refine al_nil ?_; (simp only [go_sem, simprocAttr, hget, hnn, hi2', hnx, Int.toNat_natCast, Nat.mul_one, bne_self_eq_false]); refine hK _ ?_; clear hK K))
    refine awp_if (_) rfl (fun hc => ?_) (fun hc => ?_)
    · cases hc
    · refine awp_skip ?_
      refine hK _ ?_; clear hK K
      (refine awp_reg_end [0, 1, 2, 19, 20] fun K hK => ?_; (repeat' ((refine al_r rfl fun K' hK' => ?_); (repeat (simp only [go_sem, simprocAttr, hget, hnn, hi2', hnx, Int.toNat_natCast, Nat.mul_one, bne_self_eq_false])); ((refine hK' _ _ ?_) <;> clear hK' K'))); all_goals (refine al_nil ?_; (simp only [go_sem, simprocAttr, hget, hnn, hi2', hnx, Int.toNat_natCast, Nat.mul_one, bne_self_eq_false]); refine hK _ ?_; clear hK K))
      exact ⟨2 - (i + 1), by omega, [0, 1, 2, 19, 20], [], by decide, by intro q hq; exact absurd hq (Nat.not_lt_zero q), i + 1, hi2, rfl, rfl⟩

  · refine awp_exit ?_
    clear hK
    refine hK _ ?_; clear hK K
    (refine awp_reg_seq [2, 14] fun K hK => ?_; (repeat' ((refine al_r rfl fun K' hK' => ?_); (repeat (simp only [go_sem, simprocAttr, List.length_map])); (first | ((refine hK' _ _ ?_) <;> clear hK' K') | ((show AC _ _ (D.fn 43 _) _ _); refine acall_new (f := 43) Try.call43 hcg rfl ?_; rintro r obs' ⟨rfl, rfl⟩; (simp only [go_sem, simprocAttr, List.length_map]); refine hK' _ _ ?_; clear hK' K') | ((show AC _ _ (D.fn 43 _) _ _); refine acall_new (f := 43) Try.call43 hct rfl ?_; rintro r obs' ⟨rfl, rfl⟩; (simp only [go_sem, simprocAttr, List.length_map]); refine hK' _ _ ?_; clear hK' K')))); all_goals (refine al_nil ?_; (simp only [go_sem, simprocAttr, List.length_map]); refine hK _ ?_; clear hK K))
    (refine awp_frz [2, 14] [3, 0, 1, 2] (by decide) (by (simp; done)) ?_; simp only [go_sem, simprocAttr, List.length_map])
    (refine awp_reg_seq [14, 15, 16] fun K hK => ?_; (repeat' ((refine al_r rfl fun K' hK' => ?_); (repeat (simp only [go_sem, simprocAttr, List.length_map])); (first | ((refine hK' _ _ ?_) <;> clear hK' K') | ((show AC _ _ (D.fn 59 _) _ _); refine acall_m (f := 59) [0, 1, 2, 3] Try.call59 hw rfl rfl (by decide) (by simp) ?_; rintro r obs' ⟨rfl, rfl⟩; refine ⟨by simp, ?_⟩; (simp only [go_sem, simprocAttr, List.length_map]); refine hK' _ _ ?_; clear hK' K')))); all_goals (refine al_nil ?_; (simp only [go_sem, simprocAttr, List.length_map]); refine hK _ ?_; clear hK K))
    refine awp_seq_k fun K hK => ?_

    (refine awp_reg_seq [14, 15, 16, 47] fun K hK => ?_; (repeat' ((refine al_r rfl fun K' hK' => ?_); (repeat (simp only [go_sem, simprocAttr, bne_self_eq_false])); ((refine hK' _ _ ?_) <;> clear hK' K'))); all_goals (refine al_nil ?_; (simp only [go_sem, simprocAttr, bne_self_eq_false]); refine hK _ ?_; clear hK K))
    refine awp_if (_) rfl (fun hc => ?_) (fun hc => ?_)
    · cases hc
    · refine awp_skip ?_
      refine hK _ ?_; clear hK K
      refine awp_draw_seq (by kernel_rfl) [6, 7, 8, 9] fun K hK => ?_
      ((refine ah_r 0 rfl (by kernel_rfl) rfl fun K' hK' => ?_); (simp only [go_sem, simprocAttr, bne_self_eq_false]); ((refine hK' _ ?_); clear hK' K'))
      ((refine ah_r 4 rfl (by kernel_rfl) rfl fun K' hK' => ?_); (simp only [go_sem, simprocAttr, bne_self_eq_false]); ((refine hK' _ ?_); clear hK' K'))
      ((refine ah_r 8 rfl (by kernel_rfl) rfl fun K' hK' => ?_); (simp only [go_sem, simprocAttr, bne_self_eq_false]); ((refine hK' _ ?_); clear hK' K'))
      refine ah_two 1 5 rfl rfl (by kernel_rfl) ?_ ?_
      · ((repeat' ((refine al_r rfl fun K' hK' => ?_); (repeat (simp only [go_sem, simprocAttr, bne_self_eq_false])); ((refine hK' _ _ ?_) <;> clear hK' K'))); all_goals refine al_nil ?_)
        ((refine ah_r 2 rfl (by kernel_rfl) rfl fun K' hK' => ?_); (simp only [go_sem, simprocAttr, bne_self_eq_false]); ((refine hK' _ ?_); clear hK' K'))
        refine ah_two 3 5 rfl rfl (by kernel_rfl) ?_ ?_
        · ((repeat' ((refine al_r rfl fun K' hK' => ?_); (repeat (simp only [go_sem, simprocAttr, bne_self_eq_false])); ((refine hK' _ _ ?_) <;> clear hK' K'))); all_goals refine al_nil ?_)
          ((refine ah_r 9 rfl (by kernel_rfl) rfl fun K' hK' => ?_); (simp only [go_sem, simprocAttr, bne_self_eq_false]); ((refine hK' _ ?_); clear hK' K'))
          (refine ah_one 5 rfl (by kernel_rfl) ?_; (repeat' ((refine al_r rfl fun K' hK' => ?_); (repeat (simp only [go_sem, simprocAttr, bne_self_eq_false])); ((refine hK' _ _ ?_) <;> clear hK' K'))); all_goals refine al_nil ?_)
          ((refine ah_r 6 rfl (by kernel_rfl) rfl fun K' hK' => ?_); (simp only [go_sem, simprocAttr, bne_self_eq_false]); ((refine hK' _ ?_); clear hK' K'))
          (refine ah_one 7 rfl (by kernel_rfl) ?_; (repeat' ((refine al_r rfl fun K' hK' => ?_); (repeat (simp only [go_sem, simprocAttr, bne_self_eq_false])); ((refine hK' _ _ ?_) <;> clear hK' K'))); all_goals refine al_nil ?_)
          ((refine ah_r 10 rfl (by kernel_rfl) rfl fun K' hK' => ?_); (simp only [go_sem, simprocAttr, bne_self_eq_false]); ((refine hK' _ ?_); clear hK' K'))
          ((refine ah_r 11 rfl (by kernel_rfl) rfl fun K' hK' => ?_); (simp only [go_sem, simprocAttr, bne_self_eq_false]); ((refine hK' _ ?_); clear hK' K'))
          ((refine ah_r 12 rfl (by kernel_rfl) rfl fun K' hK' => ?_); (simp only [go_sem, simprocAttr, bne_self_eq_false]); ((refine hK' _ ?_); clear hK' K'))
          (refine ah_done (by kernel_rfl) ?_; (simp only [go_sem, simprocAttr, bne_self_eq_false]); refine hK _ ?_; clear hK K)
          refine awp_ret (hR _ _ [1, 4] (.inl rfl) rfl (by decide) (by simp only [List.length_cons, List.length_nil]; decide) ?_)
          refine ⟨?_, ?_⟩ <;> simp only [go_sem, simprocAttr, bne_self_eq_false]
        · ((repeat' ((refine al_r rfl fun K' hK' => ?_); (repeat (simp only [go_sem, simprocAttr, bne_self_eq_false])); ((refine hK' _ _ ?_) <;> clear hK' K'))); all_goals refine al_nil ?_)
          ((refine ah_r 6 rfl (by kernel_rfl) rfl fun K' hK' => ?_); (simp only [go_sem, simprocAttr, bne_self_eq_false]); ((refine hK' _ ?_); clear hK' K'))
          refine ah_two 3 7 rfl rfl (by kernel_rfl) ?_ ?_
          · ((repeat' ((refine al_r rfl fun K' hK' => ?_); (repeat (simp only [go_sem, simprocAttr, bne_self_eq_false])); ((refine hK' _ _ ?_) <;> clear hK' K'))); all_goals refine al_nil ?_)
            ((refine ah_r 9 rfl (by kernel_rfl) rfl fun K' hK' => ?_); (simp only [go_sem, simprocAttr, bne_self_eq_false]); ((refine hK' _ ?_); clear hK' K'))
            (refine ah_one 7 rfl (by kernel_rfl) ?_; (repeat' ((refine al_r rfl fun K' hK' => ?_); (repeat (simp only [go_sem, simprocAttr, bne_self_eq_false])); ((refine hK' _ _ ?_) <;> clear hK' K'))); all_goals refine al_nil ?_)
            ((refine ah_r 10 rfl (by kernel_rfl) rfl fun K' hK' => ?_); (simp only [go_sem, simprocAttr, bne_self_eq_false]); ((refine hK' _ ?_); clear hK' K'))
            ((refine ah_r 11 rfl (by kernel_rfl) rfl fun K' hK' => ?_); (simp only [go_sem, simprocAttr, bne_self_eq_false]); ((refine hK' _ ?_); clear hK' K'))
            ((refine ah_r 12 rfl (by kernel_rfl) rfl fun K' hK' => ?_); (simp only [go_sem, simprocAttr, bne_self_eq_false]); ((refine hK' _ ?_); clear hK' K'))
            (refine ah_done (by kernel_rfl) ?_; (simp only [go_sem, simprocAttr, bne_self_eq_false]); refine hK _ ?_; clear hK K)
            refine awp_ret (hR _ _ [1, 4] (.inl rfl) rfl (by decide) (by simp only [List.length_cons, List.length_nil]; decide) ?_)
            refine ⟨?_, ?_⟩ <;> simp only [go_sem, simprocAttr, bne_self_eq_false]
          · ((repeat' ((refine al_r rfl fun K' hK' => ?_); (repeat (simp only [go_sem, simprocAttr, bne_self_eq_false])); ((refine hK' _ _ ?_) <;> clear hK' K'))); all_goals refine al_nil ?_)
            (refine ah_one 3 rfl (by kernel_rfl) ?_; (repeat' ((refine al_r rfl fun K' hK' => ?_); (repeat (simp only [go_sem, simprocAttr, bne_self_eq_false])); ((refine hK' _ _ ?_) <;> clear hK' K'))); all_goals refine al_nil ?_)
            ((refine ah_r 9 rfl (by kernel_rfl) rfl fun K' hK' => ?_); (simp only [go_sem, simprocAttr, bne_self_eq_false]); ((refine hK' _ ?_); clear hK' K'))
            ((refine ah_r 10 rfl (by kernel_rfl) rfl fun K' hK' => ?_); (simp only [go_sem, simprocAttr, bne_self_eq_false]); ((refine hK' _ ?_); clear hK' K'))
            ((refine ah_r 11 rfl (by kernel_rfl) rfl fun K' hK' => ?_); (simp only [go_sem, simprocAttr, bne_self_eq_false]); ((refine hK' _ ?_); clear hK' K'))
            ((refine ah_r 12 rfl (by kernel_rfl) rfl fun K' hK' => ?_); (simp only [go_sem, simprocAttr, bne_self_eq_false]); ((refine hK' _ ?_); clear hK' K'))
            (refine ah_done (by kernel_rfl) ?_; (simp only [go_sem, simprocAttr, bne_self_eq_false]); refine hK _ ?_; clear hK K)
            refine awp_ret (hR _ _ [1, 4] (.inl rfl) rfl (by decide) (by simp only [List.length_cons, List.length_nil]; decide) ?_)
            refine ⟨?_, ?_⟩ <;> simp only [go_sem, simprocAttr, bne_self_eq_false]
      · ((repeat' ((refine al_r rfl fun K' hK' => ?_); (repeat (simp only [go_sem, simprocAttr, bne_self_eq_false])); ((refine hK' _ _ ?_) <;> clear hK' K'))); all_goals refine al_nil ?_)
        ((refine ah_r 6 rfl (by kernel_rfl) rfl fun K' hK' => ?_); (simp only [go_sem, simprocAttr, bne_self_eq_false]); ((refine hK' _ ?_); clear hK' K'))
        refine ah_two 1 7 rfl rfl (by kernel_rfl) ?_ ?_
        · ((repeat' ((refine al_r rfl fun K' hK' => ?_); (repeat (simp only [go_sem, simprocAttr, bne_self_eq_false])); ((refine hK' _ _ ?_) <;> clear hK' K'))); all_goals refine al_nil ?_)
          ((refine ah_r 2 rfl (by kernel_rfl) rfl fun K' hK' => ?_); (simp only [go_sem, simprocAttr, bne_self_eq_false]); ((refine hK' _ ?_); clear hK' K'))
          refine ah_two 3 7 rfl rfl (by kernel_rfl) ?_ ?_
          · ((repeat' ((refine al_r rfl fun K' hK' => ?_); (repeat (simp only [go_sem, simprocAttr, bne_self_eq_false])); ((refine hK' _ _ ?_) <;> clear hK' K'))); all_goals refine al_nil ?_)
            ((refine ah_r 9 rfl (by kernel_rfl) rfl fun K' hK' => ?_); (simp only [go_sem, simprocAttr, bne_self_eq_false]); ((refine hK' _ ?_); clear hK' K'))
            (refine ah_one 7 rfl (by kernel_rfl) ?_; (repeat' ((refine al_r rfl fun K' hK' => ?_); (repeat (simp only [go_sem, simprocAttr, bne_self_eq_false])); ((refine hK' _ _ ?_) <;> clear hK' K'))); all_goals refine al_nil ?_)
            ((refine ah_r 10 rfl (by kernel_rfl) rfl fun K' hK' => ?_); (simp only [go_sem, simprocAttr, bne_self_eq_false]); ((refine hK' _ ?_); clear hK' K'))
            ((refine ah_r 11 rfl (by kernel_rfl) rfl fun K' hK' => ?_); (simp only [go_sem, simprocAttr, bne_self_eq_false]); ((refine hK' _ ?_); clear hK' K'))
            ((refine ah_r 12 rfl (by kernel_rfl) rfl fun K' hK' => ?_); (simp only [go_sem, simprocAttr, bne_self_eq_false]); ((refine hK' _ ?_); clear hK' K'))
            (refine ah_done (by kernel_rfl) ?_; (simp only [go_sem, simprocAttr, bne_self_eq_false]); refine hK _ ?_; clear hK K)
            refine awp_ret (hR _ _ [1, 4] (.inl rfl) rfl (by decide) (by simp only [List.length_cons, List.length_nil]; decide) ?_)
            refine ⟨?_, ?_⟩ <;> simp only [go_sem, simprocAttr, bne_self_eq_false]
          · ((repeat' ((refine al_r rfl fun K' hK' => ?_); (repeat (simp only [go_sem, simprocAttr, bne_self_eq_false])); ((refine hK' _ _ ?_) <;> clear hK' K'))); all_goals refine al_nil ?_)
            (refine ah_one 3 rfl (by kernel_rfl) ?_; (repeat' ((refine al_r rfl fun K' hK' => ?_); (repeat (simp only [go_sem, simprocAttr, bne_self_eq_false])); ((refine hK' _ _ ?_) <;> clear hK' K'))); all_goals refine al_nil ?_)
            ((refine ah_r 9 rfl (by kernel_rfl) rfl fun K' hK' => ?_); (simp only [go_sem, simprocAttr, bne_self_eq_false]); ((refine hK' _ ?_); clear hK' K'))
            ((refine ah_r 10 rfl (by kernel_rfl) rfl fun K' hK' => ?_); (simp only [go_sem, simprocAttr, bne_self_eq_false]); ((refine hK' _ ?_); clear hK' K'))
            ((refine ah_r 11 rfl (by kernel_rfl) rfl fun K' hK' => ?_); (simp only [go_sem, simprocAttr, bne_self_eq_false]); ((refine hK' _ ?_); clear hK' K'))
            ((refine ah_r 12 rfl (by kernel_rfl) rfl fun K' hK' => ?_); (simp only [go_sem, simprocAttr, bne_self_eq_false]); ((refine hK' _ ?_); clear hK' K'))
            (refine ah_done (by kernel_rfl) ?_; (simp only [go_sem, simprocAttr, bne_self_eq_false]); refine hK _ ?_; clear hK K)
            refine awp_ret (hR _ _ [1, 4] (.inl rfl) rfl (by decide) (by simp only [List.length_cons, List.length_nil]; decide) ?_)
            refine ⟨?_, ?_⟩ <;> simp only [go_sem, simprocAttr, bne_self_eq_false]
        · ((repeat' ((refine al_r rfl fun K' hK' => ?_); (repeat (simp only [go_sem, simprocAttr, bne_self_eq_false])); ((refine hK' _ _ ?_) <;> clear hK' K'))); all_goals refine al_nil ?_)
          (refine ah_one 1 rfl (by kernel_rfl) ?_; (repeat' ((refine al_r rfl fun K' hK' => ?_); (repeat (simp only [go_sem, simprocAttr, bne_self_eq_false])); ((refine hK' _ _ ?_) <;> clear hK' K'))); all_goals refine al_nil ?_)
          ((refine ah_r 2 rfl (by kernel_rfl) rfl fun K' hK' => ?_); (simp only [go_sem, simprocAttr, bne_self_eq_false]); ((refine hK' _ ?_); clear hK' K'))
          (refine ah_one 3 rfl (by kernel_rfl) ?_; (repeat' ((refine al_r rfl fun K' hK' => ?_); (repeat (simp only [go_sem, simprocAttr, bne_self_eq_false])); ((refine hK' _ _ ?_) <;> clear hK' K'))); all_goals refine al_nil ?_)
          ((refine ah_r 9 rfl (by kernel_rfl) rfl fun K' hK' => ?_); (simp only [go_sem, simprocAttr, bne_self_eq_false]); ((refine hK' _ ?_); clear hK' K'))
          ((refine ah_r 10 rfl (by kernel_rfl) rfl fun K' hK' => ?_); (simp only [go_sem, simprocAttr, bne_self_eq_false]); ((refine hK' _ ?_); clear hK' K'))
          ((refine ah_r 11 rfl (by kernel_rfl) rfl fun K' hK' => ?_); (simp only [go_sem, simprocAttr, bne_self_eq_false]); ((refine hK' _ ?_); clear hK' K'))
          ((refine ah_r 12 rfl (by kernel_rfl) rfl fun K' hK' => ?_); (simp only [go_sem, simprocAttr, bne_self_eq_false]); ((refine hK' _ ?_); clear hK' K'))
          (refine ah_done (by kernel_rfl) ?_; (simp only [go_sem, simprocAttr, bne_self_eq_false]); refine hK _ ?_; clear hK K)
          refine awp_ret (hR _ _ [1, 4] (.inl rfl) rfl (by decide) (by simp only [List.length_cons, List.length_nil]; decide) ?_)
          refine ⟨?_, ?_⟩ <;> simp only [go_sem, simprocAttr, bne_self_eq_false]
      skip


set_option maxRecDepth 100000 in
theorem overBad (g t : List Int) (w : Int) (lg lt : List Obj) (hg4 : g.length ≤ 4000) (ht4 : t.length ≤ 4000) (hog : ACallP Try.prog 15 [words g] (.tup [objs lg, iD 0])) (hot : ACallP Try.prog 15 [words t] (.tup [objs lt, iD 0])) (x e : Int) (S : CT) (he : (e != 0) = true)
    (hw : ACalls Try.prog 59 [.ptr 0 0 0, wD w, iD 40] (cpA g (g, t, [])) (fun r obs' => r = .tup [wD x, iD e] ∧ obs' = cpB g S)) :
    ACallP Try.prog 27 [words g, words t, wD w] (.tup [words [], words [], wD 0, iD e]) := by
  have hcg := cloneH (g.map wrow) (wrow1 g) (by simp; omega)
  have hct := cloneH (t.map wrow) (wrow1 t) (by simp; omega)
  rw [List.length_map] at hcg hct
  refine acallp_fn [6, 7, 8, 9] Try.func27 rfl rfl Try.ntmps27 (by simp) fun R hR => ?_
  (refine awp_reg_seq [0, 1, 2] fun K hK => ?_; (repeat' ((refine al_r rfl fun K' hK' => ?_); (repeat (simp only [go_sem, simprocAttr, he])); ((refine hK' _ _ ?_) <;> clear hK' K'))); all_goals (refine al_nil ?_; (simp only [go_sem, simprocAttr, he]); refine hK _ ?_; clear hK K))
  refine awp_seq_k fun K hK => ?_
  (refine awp_reg_seq [0, 1, 2, 19, 20] fun K hK => ?_; (repeat' ((refine al_r rfl fun K' hK' => ?_); (repeat (simp only [go_sem, simprocAttr, he])); ((refine hK' _ _ ?_) <;> clear hK' K'))); all_goals (refine al_nil ?_; (simp only [go_sem, simprocAttr, he]); refine hK _ ?_; clear hK K))
  refine awp_block ?_
  -- loop 0 head [0, 1, 2, 19, 20]
  refine awp_loop_cut (fun m s => ∃ i : Nat, i ≤ 2 ∧ m = 2 - i ∧ s = ⟨ofL [(0, words g), (1, words t), (2, wD w), (19, .agg [words g, words t]), (20, iD i)], [], 0⟩) ⟨_, 0, Nat.zero_le _, rfl, rfl⟩ ?_
  rintro m s ⟨i, hi, hm, rfl⟩
  (refine awp_reg_seq [0, 1, 2, 19, 20, 21] fun K hK => ?_; (repeat' ((refine al_r rfl fun K' hK' => ?_); (repeat (simp only [go_sem, simprocAttr, he])); ((refine hK' _ _ ?_) <;> clear hK' K'))); all_goals (refine al_nil ?_; (simp only [go_sem, simprocAttr, he]); refine hK _ ?_; clear hK K))
  refine awp_seq_k fun K hK => ?_
  refine awp_if (decide ((i : Int) < 2)) rfl (fun hc => ?_) (fun hc => ?_)
  · refine awp_skip ?_
    refine hK _ ?_; clear hK K
    refine awp_seq_k fun K hK => ?_
    refine awp_block ?_
    have hi2 : i < 2 := by simp at hc; omega
    obtain ⟨x, l, hget, hob⟩ : ∃ (x : List Int) (l : List Obj), ([words g, words t] : List D)[i]? = some (words x) ∧ ACallP Try.prog 15 [words x] (.tup [objs l, iD 0]) := by
      match i, hi2 with
      | 0, _ => exact ⟨g, lg, rfl, hog⟩
      | 1, _ => exact ⟨t, lt, rfl, hot⟩
    have hnn : (0 : Int) ≤ (i : Int) := Int.natCast_nonneg i
    have hi2' : (i : Int) < ((2 : Nat) : Int) := by omega
    have hnx : IntKind.i64.wrap ((i : Int) + 1) = ((i + 1 : Nat) : Int) := by rw [Go.Ab.wrap_small (by omega) (by omega)]; rfl

    (refine awp_reg_seq [0, 1, 2, 11, 19, 20] fun K hK => ?_; (repeat' ((refine al_r rfl fun K' hK' => ?_); (repeat (simp only [go_sem, simprocAttr, hget, hnn, hi2', hnx, Int.toNat_natCast, Nat.mul_one, bne_self_eq_false])); ((first | refine hK' _ _ ?_ | refine ⟨?_, hK' _ _ ?_⟩) <;> clear hK' K' <;> (first | (show alist _ _ _ _ _ _; skip) | assumption)))); all_goals (refine al_nil ?_; (simp only [go_sem, simprocAttr, hget, hnn, hi2', hnx, Int.toNat_natCast, Nat.mul_one, bne_self_eq_false]); refine hK _ ?_; clear hK K))
    (refine awp_reg_seq [0, 1, 2, 13, 19, 20] fun K hK => ?_; (repeat' ((refine al_r rfl fun K' hK' => ?_); (repeat (simp only [go_sem, simprocAttr, hget, hnn, hi2', hnx, Int.toNat_natCast, Nat.mul_one, bne_self_eq_false])); (first | ((refine hK' _ _ ?_) <;> clear hK' K') | ((show AC _ _ (D.fn 15 _) _ _); refine acall_p (f := 15) (e := rfl) (hr := rfl) (k := hK' _ _ ?_) (hc := Try.call15) (h := hob); clear hK' K')))); all_goals (refine al_nil ?_; (simp only [go_sem, simprocAttr, hget, hnn, hi2', hnx, Int.toNat_natCast, Nat.mul_one, bne_self_eq_false]); refine hK _ ?_; clear hK K))
    (refine awp_reg_seq [0, 1, 2, 13, 19, 20, 29] fun K hK => ?_; (repeat' ((refine al_r rfl fun K' hK' => ?_); (repeat (simp only [go_sem, simprocAttr, hget, hnn, hi2', hnx, Int.toNat_natCast, Nat.mul_one, bne_self_eq_false])); ((refine hK' _ _ ?_) <;> clear hK' K'))); all_goals (refine al_nil ?_; (simp only [go_sem, simprocAttr, hget, hnn, hi2', hnx, Int.toNat_natCast, Nat.mul_one, bne_self_eq_false]); refine hK _ ?_; clear hK K))
    refine awp_if (_) rfl (fun hc => ?_) (fun hc => ?_)
    · cases hc
    · refine awp_skip ?_
      refine hK _ ?_; clear hK K
      (refine awp_reg_end [0, 1, 2, 19, 20] fun K hK => ?_; (repeat' ((refine al_r rfl fun K' hK' => ?_); (repeat (simp only [go_sem, simprocAttr, hget, hnn, hi2', hnx, Int.toNat_natCast, Nat.mul_one, bne_self_eq_false])); ((refine hK' _ _ ?_) <;> clear hK' K'))); all_goals (refine al_nil ?_; (simp only [go_sem, simprocAttr, hget, hnn, hi2', hnx, Int.toNat_natCast, Nat.mul_one, bne_self_eq_false]); refine hK _ ?_; clear hK K))
      exact ⟨2 - (i + 1), by omega, [0, 1, 2, 19, 20], [], by decide, by intro q hq; exact absurd hq (Nat.not_lt_zero q), i + 1, hi2, rfl, rfl⟩

  · refine awp_exit ?_
    clear hK
    refine hK _ ?_; clear hK K
    (refine awp_reg_seq [2, 14] fun K hK => ?_; (repeat' ((refine al_r rfl fun K' hK' => ?_); (repeat (simp only [go_sem, simprocAttr, List.length_map])); (first | ((refine hK' _ _ ?_) <;> clear hK' K') | ((show AC _ _ (D.fn 43 _) _ _); refine acall_new (f := 43) Try.call43 hcg rfl ?_; rintro r obs' ⟨rfl, rfl⟩; (simp only [go_sem, simprocAttr, List.length_map]); refine hK' _ _ ?_; clear hK' K') | ((show AC _ _ (D.fn 43 _) _ _); refine acall_new (f := 43) Try.call43 hct rfl ?_; rintro r obs' ⟨rfl, rfl⟩; (simp only [go_sem, simprocAttr, List.length_map]); refine hK' _ _ ?_; clear hK' K')))); all_goals (refine al_nil ?_; (simp only [go_sem, simprocAttr, List.length_map]); refine hK _ ?_; clear hK K))
    (refine awp_frz [2, 14] [3, 0, 1, 2] (by decide) (by (simp; done)) ?_; simp only [go_sem, simprocAttr, List.length_map])
    (refine awp_reg_seq [14, 15, 16] fun K hK => ?_; (repeat' ((refine al_r rfl fun K' hK' => ?_); (repeat (simp only [go_sem, simprocAttr, List.length_map])); (first | ((refine hK' _ _ ?_) <;> clear hK' K') | ((show AC _ _ (D.fn 59 _) _ _); refine acall_m (f := 59) [0, 1, 2, 3] Try.call59 hw rfl rfl (by decide) (by simp) ?_; rintro r obs' ⟨rfl, rfl⟩; refine ⟨by simp, ?_⟩; (simp only [go_sem, simprocAttr, List.length_map]); refine hK' _ _ ?_; clear hK' K')))); all_goals (refine al_nil ?_; (simp only [go_sem, simprocAttr, List.length_map]); refine hK _ ?_; clear hK K))
    refine awp_seq_k fun K hK => ?_

    (refine awp_reg_seq [14, 15, 16, 47] fun K hK => ?_; (repeat' ((refine al_r rfl fun K' hK' => ?_); (repeat (simp only [go_sem, simprocAttr, he])); ((refine hK' _ _ ?_) <;> clear hK' K'))); all_goals (refine al_nil ?_; (simp only [go_sem, simprocAttr, he]); refine hK _ ?_; clear hK K))
    refine awp_if (_) rfl (fun hc => ?_) (fun hc => ?_)
    · (refine awp_reg_seq [6, 7, 8, 9] fun K hK => ?_; (repeat' ((refine al_r rfl fun K' hK' => ?_); (repeat (simp only [go_sem, simprocAttr, he])); ((refine hK' _ _ ?_) <;> clear hK' K'))); all_goals (refine al_nil ?_; (simp only [go_sem, simprocAttr, he]); refine hK _ ?_; clear hK K))
      refine awp_ret ?_; (refine hR _ _ (.inl rfl) rfl ?_)
      simp only [go_sem, simprocAttr, he]
      try rfl
    · cases hc


theorem overObj (g t : List Int) (w e0 e1 V : Int) (lg lt : List Obj) (hog : ACallP Try.prog 15 [words g] (.tup [objs lg, iD e0])) (hot : ACallP Try.prog 15 [words t] (.tup [objs lt, iD e1])) (hV : V = if (e0 != 0) = true then e0 else e1) (hV0 : V ≠ 0) :
    ACallP Try.prog 27 [words g, words t, wD w] (.tup [words [], words [], wD 0, iD V]) := by
  refine acallp_fn [6, 7, 8, 9] Try.func27 rfl rfl Try.ntmps27 (by simp) fun R hR => ?_
  (refine awp_reg_seq [0, 1, 2] fun K hK => ?_; (repeat' ((refine al_r rfl fun K' hK' => ?_); (repeat (simp only [go_sem, simprocAttr])); ((refine hK' _ _ ?_) <;> clear hK' K'))); all_goals (refine al_nil ?_; (simp only [go_sem, simprocAttr]); refine hK _ ?_; clear hK K))
  refine awp_seq_k fun K hK => ?_
  (refine awp_reg_seq [0, 1, 2, 19, 20] fun K hK => ?_; (repeat' ((refine al_r rfl fun K' hK' => ?_); (repeat (simp only [go_sem, simprocAttr])); ((refine hK' _ _ ?_) <;> clear hK' K'))); all_goals (refine al_nil ?_; (simp only [go_sem, simprocAttr]); refine hK _ ?_; clear hK K))
  refine awp_block ?_
  -- loop 0 head [0, 1, 2, 19, 20]
  refine awp_loop_cut (fun m s => ∃ i : Nat, i ≤ 1 ∧ m = 2 - i ∧ (i = 1 → e0 = 0) ∧ s = ⟨ofL [(0, words g), (1, words t), (2, wD w), (19, .agg [words g, words t]), (20, iD i)], [], 0⟩) ⟨_, 0, Nat.zero_le _, rfl, fun h => (by cases h), rfl⟩ ?_
  rintro m s ⟨i, hi, hm, hie, rfl⟩
  (refine awp_reg_seq [0, 1, 2, 19, 20, 21] fun K hK => ?_; (repeat' ((refine al_r rfl fun K' hK' => ?_); (repeat (simp only [go_sem, simprocAttr])); ((refine hK' _ _ ?_) <;> clear hK' K'))); all_goals (refine al_nil ?_; (simp only [go_sem, simprocAttr]); refine hK _ ?_; clear hK K))
  refine awp_seq_k fun K hK => ?_
  refine awp_if (decide ((i : Int) < 2)) rfl (fun hc => ?_) (fun hc => ?_)
  · refine awp_skip ?_
    refine hK _ ?_; clear hK K
    refine awp_seq_k fun K hK => ?_
    refine awp_block ?_
    have hi2 : i < 2 := by omega
    obtain ⟨x, l, e, hget, hob, hcase⟩ : ∃ (x : List Int) (l : List Obj) (e : Int), ([words g, words t] : List D)[i]? = some (words x) ∧ ACallP Try.prog 15 [words x] (.tup [objs l, iD e]) ∧ ((i = 0 ∧ e = e0) ∨ (i = 1 ∧ e = e1)) := by
      match i, hi2 with
      | 0, _ => exact ⟨g, lg, e0, rfl, hog, .inl ⟨rfl, rfl⟩⟩
      | 1, _ => exact ⟨t, lt, e1, rfl, hot, .inr ⟨rfl, rfl⟩⟩
    have hnn : (0 : Int) ≤ (i : Int) := Int.natCast_nonneg i
    have hi2' : (i : Int) < ((2 : Nat) : Int) := by omega
    have hnx : IntKind.i64.wrap ((i : Int) + 1) = ((i + 1 : Nat) : Int) := by rw [Go.Ab.wrap_small (by omega) (by omega)]; rfl

    (refine awp_reg_seq [0, 1, 2, 11, 19, 20] fun K hK => ?_; (repeat' ((refine al_r rfl fun K' hK' => ?_); (repeat (simp only [go_sem, simprocAttr, hget, hnn, hi2', hnx, Int.toNat_natCast, Nat.mul_one])); ((first | refine hK' _ _ ?_ | refine ⟨?_, hK' _ _ ?_⟩) <;> clear hK' K' <;> (first | (show alist _ _ _ _ _ _; skip) | assumption)))); all_goals (refine al_nil ?_; (simp only [go_sem, simprocAttr, hget, hnn, hi2', hnx, Int.toNat_natCast, Nat.mul_one]); refine hK _ ?_; clear hK K))
    (refine awp_reg_seq [0, 1, 2, 13, 19, 20] fun K hK => ?_; (repeat' ((refine al_r rfl fun K' hK' => ?_); (repeat (simp only [go_sem, simprocAttr, hget, hnn, hi2', hnx, Int.toNat_natCast, Nat.mul_one])); (first | ((refine hK' _ _ ?_) <;> clear hK' K') | ((show AC _ _ (D.fn 15 _) _ _); refine acall_p (f := 15) (e := rfl) (hr := rfl) (k := hK' _ _ ?_) (hc := Try.call15) (h := hob); clear hK' K')))); all_goals (refine al_nil ?_; (simp only [go_sem, simprocAttr, hget, hnn, hi2', hnx, Int.toNat_natCast, Nat.mul_one]); refine hK _ ?_; clear hK K))
    (refine awp_reg_seq [0, 1, 2, 13, 19, 20, 29] fun K hK => ?_; (repeat' ((refine al_r rfl fun K' hK' => ?_); (repeat (simp only [go_sem, simprocAttr, hget, hnn, hi2', hnx, Int.toNat_natCast, Nat.mul_one])); ((refine hK' _ _ ?_) <;> clear hK' K'))); all_goals (refine al_nil ?_; (simp only [go_sem, simprocAttr, hget, hnn, hi2', hnx, Int.toNat_natCast, Nat.mul_one]); refine hK _ ?_; clear hK K))
    refine awp_if (e != 0) rfl (fun hc => ?_) (fun hc => ?_)
    · (refine awp_reg_seq [6, 7, 8, 9] fun K hK => ?_; (repeat' ((refine al_r rfl fun K' hK' => ?_); (repeat (simp only [go_sem, simprocAttr, hget, hnn, hi2', hnx, Int.toNat_natCast, Nat.mul_one])); ((refine hK' _ _ ?_) <;> clear hK' K'))); all_goals (refine al_nil ?_; (simp only [go_sem, simprocAttr, hget, hnn, hi2', hnx, Int.toNat_natCast, Nat.mul_one]); refine hK _ ?_; clear hK K))
      have hVe : V = e := by
        rcases hcase with ⟨h1, h2⟩ | ⟨h1, h2⟩
        · rw [hV, ← h2, if_pos hc]
        · rw [hV, hie h1, h2]; rfl
      refine awp_ret ?_; (refine hR _ _ (.inl rfl) rfl ?_)
      rw [hVe]
      simp only [go_sem, simprocAttr, hget, hnn, hi2', hnx, Int.toNat_natCast, Nat.mul_one]
      try rfl
    · have he0 : e = 0 := by simpa using hc
      refine awp_skip ?_
      refine hK _ ?_; clear hK K
      (refine awp_reg_end [0, 1, 2, 19, 20] fun K hK => ?_; (repeat' ((refine al_r rfl fun K' hK' => ?_); (repeat (simp only [go_sem, simprocAttr, hget, hnn, hi2', hnx, Int.toNat_natCast, Nat.mul_one])); ((refine hK' _ _ ?_) <;> clear hK' K'))); all_goals (refine al_nil ?_; (simp only [go_sem, simprocAttr, hget, hnn, hi2', hnx, Int.toNat_natCast, Nat.mul_one]); refine hK _ ?_; clear hK K))
      rcases hcase with ⟨h1, h2⟩ | ⟨h1, h2⟩
      · exact ⟨2 - (i + 1), by omega, [0, 1, 2, 19, 20], [], by decide, by intro q hq; exact absurd hq (Nat.not_lt_zero q), i + 1, by omega, rfl, fun _ => by rw [← h2]; exact he0, rfl⟩
      · exfalso; refine hV0 ?_; rw [hV, hie h1, ← h2, he0]; rfl
  · simp at hc
    omega
end Go.Proofs.Ytagphggcdmjlpaa.P

/- Ages that are right, in plain words: facts about objects at their places. -/
namespace Go.Proofs.Ytagphggcdmjlpaa.P
open Go.Ab Go.Proofs.Ytagphggcdmjlpaa.T

theorem place_append : ∀ (l m : List Obj) (a : Nat), place a (l ++ m) = place a l ++ place (a + (flat l).length) m
  | [], m, a => rfl
  | o :: l, m, a => by
    show o.to a :: place _ (l ++ m) = o.to a :: (place _ l ++ _)
    rw [place_append l m]
    have : (flat (o :: l)).length = (encW o).length + (flat l).length := by show (encW o ++ flat l).length = _; rw [List.length_append]
    rw [this, Nat.add_assoc]

theorem chain_place {h : List Int} : ∀ {l : List Obj} {a : Nat}, Chain h a l → place a l = l
  | [], _, _ => rfl
  | o :: l, a, ⟨h1, _, _, _, h5⟩ => by
    show o.to a :: place _ l = _
    rw [chain_place h5]
    have : o.to a = o := by cases o; simp only at h1; subst h1; rfl
    rw [this]

theorem parts_flat {l : List Obj} {o : Obj} (ho : o ∈ l) {w : Int} (hw : w ∈ o.parts) : w ∈ flat l := by
  induction l with
  | nil => cases ho
  | cons x l ih =>
    show w ∈ encW x ++ flat l
    rcases List.mem_cons.1 ho with rfl | ho
    · refine List.mem_append_left _ ?_
      unfold encW
      exact List.mem_cons_of_mem _ (List.mem_append_right _ (List.mem_append_right _ hw))
    · exact List.mem_append_right _ (ih ho)

/-- A list of objects at their places. -/
def Placed (l : List Obj) : Prop := place 0 l = l ∧ ∀ o, o ∈ l → ObjOk o

theorem heap_flat {h : List Int} (hlen : h.length ≤ maxLen) (hok : ∀ w, w ∈ h → WordOk w) (he : (objsS h).2 = 0) : h.length ≤ 4000 ∧ h = flat (objsS h).1 ∧ Placed (objsS h).1 := by
  have hv : objsS h = if decide ((h.length : Int) > 4000) then ([], 2) else objF h (h.length + 1) 0 [] := rfl
  by_cases h4 : h.length ≤ 4000
  · rw [if_neg (by simp; omega)] at hv
    rw [hv] at he ⊢
    obtain ⟨l', hl, hc⟩ := objF_chain hlen hok (h.length + 1) 0 [] (objF h (h.length + 1) 0 []).1 (by omega) (Nat.zero_le _) (by rw [← he])
    rw [List.nil_append] at hl
    rw [← hl] at hc
    have hnums := objF_nums (h := h) (h.length + 1) 0 [] (fun x hx => by cases hx)
    generalize (objF h (h.length + 1) 0 []).1 = l at *
    have hri := chain_right hc
    have hfl := chain_flat hc
    rw [List.drop_zero] at hfl
    exact ⟨h4, hfl, chain_place hc, fun o ho => ⟨hri o ho, hnums o ho, fun w hw => hok w (by rw [hfl]; exact parts_flat ho hw)⟩⟩
  · rw [if_pos (by simp; omega)] at hv
    rw [hv] at he
    cases he

theorem place_mem : ∀ {L : List Obj} {a : Nat} {x : Obj}, x ∈ place a L → ∃ P o Q, L = P ++ o :: Q ∧ x = o.to (a + (flat P).length)
  | [], _, _, h => by cases h
  | o :: L, a, x, h => by
    rcases List.mem_cons.1 h with rfl | h
    · exact ⟨[], o, L, rfl, by simp [flat]⟩
    · obtain ⟨P, o2, Q, rfl, rfl⟩ := place_mem h
      refine ⟨o :: P, o2, Q, rfl, ?_⟩
      have : (flat (o :: P)).length = (encW o).length + (flat P).length := by show (encW o ++ flat P).length = _; rw [List.length_append]
      rw [this, Nat.add_assoc]

theorem placed_split {L : List Obj} (hL : Placed L) {o : Obj} (ho : o ∈ L) : ∃ P Q, L = P ++ o :: Q ∧ o.at_ = (flat P).length := by
  rw [← hL.1] at ho
  obtain ⟨P, o2, Q, hl, rfl⟩ := place_mem ho
  refine ⟨P, Q, ?_, by show ((0 + (flat P).length : Nat) : Int) = _; rw [Nat.zero_add]⟩
  have h1 := hL.1
  rw [hl, place_append] at h1
  obtain ⟨e1, e2⟩ := List.append_inj h1 (place_len _ _)
  have e3 : o2.to (0 + (flat P).length) = o2 := (List.cons.inj e2).1
  rw [e3]; exact hl

/-- The object at its place is read. -/
theorem at_placed {L : List Obj} (hL : Placed L) {o : Obj} (ho : o ∈ L) : atS (flat L) o.at_ = (o, 0) := by
  obtain ⟨P, Q, hl, ha⟩ := placed_split hL ho
  have hk := hL.2 o ho
  rw [hl, flat_append, ha]
  have h := at_enc (flat P) (flat Q) o hk.1 hk.2.1
  rw [show flat (o :: Q) = encW o ++ flat Q from rfl, h]
  have : o.to (flat P).length = o := by cases o; simp only at ha; subst ha; rfl
  rw [this]

theorem placed_inj {L : List Obj} (hL : Placed L) {x y : Obj} (hx : x ∈ L) (hy : y ∈ L) (h : x.at_ = y.at_) : x = y := by
  have h1 := at_placed hL hx
  have h2 := at_placed hL hy
  rw [h] at h1
  rw [h1] at h2
  exact (Prod.mk.inj h2).1

theorem placed_ok {L : List Obj} (hL : Placed L) : ∀ w, w ∈ flat L → WordOk w := flat_ok fun o ho => (hL.2 o ho).2.2

theorem placed_len {L : List Obj} (hL : Placed L) {o : Obj} (ho : o ∈ L) : ∃ n : Nat, o.at_ = n ∧ n + (encW o).length ≤ (flat L).length := by
  obtain ⟨P, Q, hl, ha⟩ := placed_split hL ho
  refine ⟨_, ha, ?_⟩
  rw [hl, flat_append, show flat (o :: Q) = encW o ++ flat Q from rfl, List.length_append, List.length_append]
  omega

theorem count_len {L : List Obj} : L.length ≤ (flat L).length := by
  induction L with
  | nil => exact Nat.zero_le _
  | cons o L ih =>
    rw [show flat (o :: L) = encW o ++ flat L from rfl, List.length_append, List.length_cons]
    have : 1 ≤ (encW o).length := by simp [encW]
    omega

end Go.Proofs.Ytagphggcdmjlpaa.P

/- Objects that are put behind, and parts that are set: plain facts for the copier. -/
namespace Go.Proofs.Ytagphggcdmjlpaa.P
open Go.Ab Go.Proofs.Ytagphggcdmjlpaa.T

/-- An object with one part set. -/
def setPart (x : Obj) (i : Nat) (w : Int) : Obj := { x with parts := x.parts.set i w }

theorem right_len {x : Obj} {ps : List Int} (h : ps.length = x.parts.length) : rightS { x with parts := ps } = rightS x := by
  unfold rightS
  simp only [h]

theorem placed_snoc {T : List Obj} {o : Obj} (hT : Placed T) (ho : ObjOk o) : Placed (T ++ [o.to (flat T).length]) ∧ flat (T ++ [o.to (flat T).length]) = flat T ++ encW o := by
  refine ⟨⟨?_, fun x hx => ?_⟩, ?_⟩
  · rw [place_append, hT.1, Nat.zero_add]; rfl
  · rcases List.mem_append.1 hx with hx | hx
    · exact hT.2 x hx
    · rcases List.mem_singleton.1 hx with rfl; exact ho
  · rw [flat_append]
    show flat T ++ (encW o ++ []) = _
    rw [List.append_nil]

/-- How many words are left to be copied. -/
def restN (f : Obj → Bool) : List Obj → Nat
  | [] => 0
  | o :: l => (if f o then (encW o).length else 0) + restN f l

end Go.Proofs.Ytagphggcdmjlpaa.P

/- Over as a whole; the closed fact carries. -/
namespace Go.Proofs.Ytagphggcdmjlpaa.P
open Go.Ab Go.Proofs.Ytagphggcdmjlpaa.T

/-- What Over does: it answers an error, or the copier's heaps. -/
theorem overC (g t : List Int) (w : Int) (hgl : g.length ≤ maxLen) (htl : t.length ≤ maxLen) (hgo : ∀ w, w ∈ g → WordOk w) (hto : ∀ w, w ∈ t → WordOk w) :
    (∃ e, e ≠ 0 ∧ ACallP Try.prog 27 [words g, words t, wD w] (.tup [words [], words [], wD 0, iD e])) ∨
    ∃ x S, (objsS g).2 = 0 ∧ (objsS t).2 = 0 ∧ wordK g 40 (g, t, []) w = ((x, 0), S) ∧
      ACalls Try.prog 27 [words g, words t, wD w] [] (fun r obs' => r = .tup [.ref 0 0 S.1.length, .ref 1 0 S.2.1.length, wD x, iD 0] ∧ obs' = [.row 1 (S.1.map wrow), .row 1 (S.2.1.map wrow)]) := by
  have hog := objects g hgl hgo
  have hot := objects t htl hto
  by_cases h1 : (objsS g).2 = 0
  · by_cases h2 : (objsS t).2 = 0
    · obtain ⟨hg4, _⟩ := heap_flat hgl hgo h1
      obtain ⟨ht4, _⟩ := heap_flat htl hto h2
      rw [h1] at hog
      rw [h2] at hot
      obtain ⟨hw, _⟩ := wordKc g hg4 hgo 40 (by omega) (g, t, []) w ⟨rfl, ht4⟩
      have hfin : ∀ W, W = wordK g 40 (g, t, []) w → ACalls Try.prog 59 [.ptr 0 0 0, wD w, iD 40] (cpA g (g, t, [])) (fun r obs' => r = .tup [wD W.1.1, iD W.1.2] ∧ obs' = cpB g W.2) := fun W e => by subst e; exact hw
      generalize hW : wordK g 40 (g, t, []) w = W at hw
      obtain ⟨⟨x, e⟩, S⟩ := W
      have hw := hfin _ hW.symm
      by_cases he : e = 0
      · subst he
        exact .inr ⟨x, S, h1, h2, rfl, overOk g t w _ _ hg4 ht4 hog hot x S hw⟩
      · exact .inl ⟨e, he, overBad g t w _ _ hg4 ht4 hog hot x e S (by simpa using he) hw⟩
    · exact .inl ⟨_, h2, overObj g t w _ _ _ _ _ hog hot (by rw [if_neg (by simp [h1])]) h2⟩
  · exact .inl ⟨_, h1, overObj g t w _ _ _ _ _ hog hot (by rw [if_pos (by simpa using h1)]) h1⟩

theorem carriesK : ACalls Try.prog 27 [words [258, 97], words [2], wD 4] [] (fun r obs' => r = .tup [.ref 0 0 2, .ref 1 0 3, wD 12, iD 0] ∧ obs' = [.row 1 (([258, 97] : List Int).map wrow), .row 1 (([2, 258, 97] : List Int).map wrow)]) := by
  have hok : ∀ w, w ∈ ([258, 97] : List Int) → WordOk w := by
    intro w hw
    simp only [List.mem_cons, List.not_mem_nil, or_false] at hw
    rcases hw with rfl | rfl <;> exact ⟨by decide, by decide⟩
  have hok2 : ∀ w, w ∈ ([2] : List Int) → WordOk w := by
    intro w hw
    rcases List.mem_singleton.1 hw with rfl
    exact ⟨by decide, by decide⟩
  have h1 := objects [258, 97] (by simp [maxLen]) hok
  rw [show objsS [258, 97] = ([oA], 0) by kernel_rfl] at h1
  have h2 := objects [2] (by simp [maxLen]) hok2
  rw [show objsS [2] = ([⟨0, 2, 0, ByteArray.empty, []⟩], 0) by kernel_rfl] at h2
  have hw := (wordKc [258, 97] (by simp) hok 40 (by omega) ([258, 97], [2], []) 4 ⟨rfl, by simp⟩).1
  rw [show wordK [258, 97] 40 ([258, 97], [2], []) 4 = ((12, 0), ([258, 97], [2, 258, 97], [(0, 12)])) by kernel_rfl] at hw
  exact overOk [258, 97] [2] 4 _ _ (by simp) (by simp) h1 h2 12 _ hw
theorem carriesKF : ∀ o, o ∈ [Ob.row 1 (([258, 97] : List Int).map wrow), Ob.row 1 (([2, 258, 97] : List Int).map wrow)] → flatOb o := fun o ho => by
  rcases List.mem_cons.1 ho with rfl | ho
  · exact flat_w _ _ (List.mem_singleton.2 rfl)
  · rcases List.mem_singleton.1 ho with rfl
    exact flat_w _ _ (List.mem_singleton.2 rfl)


theorem carriesT : ACallP Try.prog 28 [] (bD true) := by
  refine acallp_fn [0] Try.func28 rfl rfl Try.ntmps28 (by simp) fun R hR => ?_
  (refine awp_reg_seq [] fun K hK => ?_; (repeat' ((refine al_r rfl fun K' hK' => ?_); (repeat (simp only [go_sem, simprocAttr, beq_self_eq_true])); ((refine hK' _ _ ?_) <;> clear hK' K'))); all_goals (refine al_nil ?_; (simp only [go_sem, simprocAttr, beq_self_eq_true]); refine hK _ ?_; clear hK K))
  (refine awp_reg_seq [2, 3, 4] fun K hK => ?_; (repeat' ((refine al_r rfl fun K' hK' => ?_); (repeat (simp only [go_sem, simprocAttr, beq_self_eq_true])); (first | ((refine hK' _ _ ?_) <;> clear hK' K') | ((show AC _ _ (D.fn 27 _) _ _); refine acall_gn (f := 27) Try.call27 carriesK rfl (by simp [D.all, D.allL, flatL, flatPV]) (hfo := carriesKF) ?_; (simp only [go_sem, simprocAttr, beq_self_eq_true]); refine hK' _ _ ?_; clear hK' K')))); all_goals (refine al_nil ?_; (simp only [go_sem, simprocAttr, beq_self_eq_true]); refine hK _ ?_; clear hK K))
  (refine awp_frz [2, 3, 4] [] (by decide) (by (simp; done)) ?_; simp only [go_sem, simprocAttr, beq_self_eq_true])
  (refine awp_reg_seq [0] fun K hK => ?_; (repeat' ((first | refine al_r rfl fun K' hK' => ?_ | refine al_t rfl rfl fun K' hK' => ?_); (repeat (simp only [go_sem, simprocAttr, beq_self_eq_true])); ((first | refine hK' _ _ ?_ | refine ⟨?_, hK' _ _ ?_⟩) <;> clear hK' K' <;> (first | (show alist _ _ _ _ _ _; skip) | (intro s hs; cases hs; done))))); all_goals (refine al_nil ?_; (simp only [go_sem, simprocAttr, beq_self_eq_true]); refine hK _ ?_; clear hK K))
  all_goals (refine awp_ret ?_; (refine hR _ _ (.inl rfl) rfl ?_); (simp only [go_sem, simprocAttr, beq_self_eq_true, *, Bool.and_true, Bool.and_false, Bool.true_and, Bool.false_and, Bool.or_true, Bool.true_or, Bool.or_false, Bool.false_or, Bool.not_true, Bool.not_false, Bool.false_eq_true]; done))
end Go.Proofs.Ytagphggcdmjlpaa.P

/- What Over copies, in plain words. -/
namespace Go.Proofs.Ytagphggcdmjlpaa.P
open Go.Ab Go.Proofs.Ytagphggcdmjlpaa.T

theorem lk_end : ∀ (mv : List (Int × Int)) (a t b : Int), lk (mv ++ [(a, t)]) b = match lk mv b with | some x => some x | none => if a = b then some t else none
  | [], a, t, b => rfl
  | (c, d) :: l, a, t, b => by
    have e1 : lk ((c, d) :: l ++ [(a, t)]) b = if c = b then some d else lk (l ++ [(a, t)]) b := rfl
    have e2 : lk ((c, d) :: l) b = if c = b then some d else lk l b := rfl
    rw [e1, e2]
    by_cases h : c = b
    · rw [if_pos h, if_pos h]
    · rw [if_neg h, if_neg h, lk_end l]

theorem ups_new : ∀ {m : List (Int × Int)} {a : Int} (x : Int), lk m a = none → ups m a x = m ++ [(a, x)]
  | [], _, _, _ => rfl
  | (c, d) :: l, a, x, h => by
    have e2 : lk ((c, d) :: l) a = if c = a then some d else lk l a := rfl
    rw [e2] at h
    split at h
    · cases h
    · rename_i hc
      show (if c = a then _ else (c, d) :: ups l a x) = _
      rw [if_neg hc, ups_new x h]; rfl

/-- What a word stands for in the new heap. -/
def phiK (mv : List (Int × Int)) (w : Int) : Int := if (placeS w).2.1 then (match lk mv (placeS w).1 with | some x => x | none => w) else w
def KnownK (mv : List (Int × Int)) (w : Int) : Prop := (placeS w).2.2 = 0 ∧ ((placeS w).2.1 = true → ∃ x, lk mv (placeS w).1 = some x)
def SubK (mv mv' : List (Int × Int)) : Prop := ∀ a t, lk mv a = some t → lk mv' a = some t

theorem knownK_sub {mv mv' : List (Int × Int)} {w : Int} (h : SubK mv mv') (hk : KnownK mv w) : KnownK mv' w := ⟨hk.1, fun hi => by
  obtain ⟨x, e⟩ := hk.2 hi
  exact ⟨x, h _ _ e⟩⟩
theorem phiK_some {mv : List (Int × Int)} {w x : Int} (h1 : (placeS w).2.1 = true) (h2 : lk mv (placeS w).1 = some x) : phiK mv w = x := by
  unfold phiK; rw [if_pos h1, h2]
theorem phiK_not {mv : List (Int × Int)} {w : Int} (h1 : (placeS w).2.1 = false) : phiK mv w = w := by
  unfold phiK; rw [if_neg (by rw [h1]; exact Bool.false_ne_true)]
theorem phiK_sub {mv mv' : List (Int × Int)} {w : Int} (h : SubK mv mv') (hk : KnownK mv w) : phiK mv' w = phiK mv w := by
  cases hi : (placeS w).2.1 with
  | false => rw [phiK_not hi, phiK_not hi]
  | true =>
    obtain ⟨x, e⟩ := hk.2 hi
    rw [phiK_some hi e, phiK_some hi (h _ _ e)]

/-- What is reached from a word, through objects that are read. -/
inductive ReachK (g : List Int) : Int → Int → Prop where
  | here {w : Int} : (placeS w).2.1 = true → ReachK g w (placeS w).1
  | part {w p b : Int} {o : Obj} : (placeS w).2.1 = true → atS g (placeS w).1 = (o, 0) → p ∈ o.parts → ReachK g p b → ReachK g w b

/-- A place from which no way leads for ever. -/
inductive GoodK (g : List Int) : Int → Prop where
  | mk {a : Int} {o : Obj} : atS g a = (o, 0) → (∀ p, p ∈ o.parts → (placeS p).2.1 = true → GoodK g (placeS p).1) → GoodK g a

/-- One place has another one behind it. -/
inductive Behind (g : List Int) : Int → Int → Prop where
  | one {a p : Int} {o : Obj} : atS g a = (o, 0) → p ∈ o.parts → (placeS p).2.1 = true → Behind g a (placeS p).1
  | more {a p b : Int} {o : Obj} : atS g a = (o, 0) → p ∈ o.parts → (placeS p).2.1 = true → Behind g (placeS p).1 b → Behind g a b

theorem Behind.trans {g : List Int} {a b c : Int} (h1 : Behind g a b) (h2 : Behind g b c) : Behind g a c := by
  induction h1 with
  | one ho hp hi => exact .more ho hp hi h2
  | more ho hp hi _ ih => exact .more ho hp hi (ih h2)

theorem good_behind {g : List Int} {a : Int} (h : GoodK g a) : ¬ Behind g a a := by
  induction h with
  | @mk a o ho hp ih =>
    intro hb
    have step : ∀ b, Behind g a b → ∃ p, p ∈ o.parts ∧ (placeS p).2.1 = true ∧ (b = (placeS p).1 ∨ Behind g (placeS p).1 b) := fun b hb => by
      cases hb with
      | @one _ p o2 ho2 hp2 hi2 =>
        rw [ho] at ho2
        cases (Prod.mk.inj ho2).1
        exact ⟨p, hp2, hi2, .inl rfl⟩
      | @more _ p _ o2 ho2 hp2 hi2 h2 =>
        rw [ho] at ho2
        cases (Prod.mk.inj ho2).1
        exact ⟨p, hp2, hi2, .inr h2⟩
    obtain ⟨p, hpm, hi, h2⟩ := step a hb
    have h3 : Behind g a (placeS p).1 := .one ho hpm hi
    rcases h2 with h2 | h2
    · rw [← h2] at h3
      have := ih p hpm hi
      rw [← h2] at this
      exact this hb
    · exact ih p hpm hi (h2.trans h3)

theorem reach_behind {g : List Int} {w b : Int} (h : ReachK g w b) : ∀ {a : Int} {o : Obj}, atS g a = (o, 0) → w ∈ o.parts → Behind g a b := by
  induction h with
  | here hi => intro a o ho hw; exact .one ho hw hi
  | @part w p b o2 hi ho2 hp _ ih => intro a o ho hw; exact .more ho hw hi (ih ho2 hp)

/-- What is so all the time while the copier runs. -/
structure InvK (g : List Int) (L : List Obj) (S : CT) : Prop where
  ex : ∃ N, Placed (L ++ N) ∧ S.2.1 = flat (L ++ N) ∧ (flat (L ++ N)).length ≤ 4000 ∧ N.length = S.2.2.length ∧
    ∀ a x, lk S.2.2 a = some x → GoodK g a ∧ ∃ (t : Nat) (q o : Obj), q ∈ N ∧ q.at_ = t ∧ t ≤ 4000 ∧ x = (wordS 4 t).1 ∧ atS g a = (o, 0) ∧ q.kind = o.kind ∧ q.num = o.num ∧ q.text = o.text ∧ q.parts = o.parts.map (phiK S.2.2) ∧ ∀ p, p ∈ o.parts → KnownK S.2.2 p
  inj : ∀ a b x, lk S.2.2 a = some x → lk S.2.2 b = some x → a = b
  nd : (S.2.2.map Prod.fst).Nodup
end Go.Proofs.Ytagphggcdmjlpaa.P

/- Set and Check as a whole; R.Begins; the walk of YoungSets. -/
namespace Go.Proofs.Ytagphggcdmjlpaa.P
open Go.Ab Go.Proofs.Ytagphggcdmjlpaa.T

/-- A word that names an object, or none. -/
def NameOk (L : List Obj) (w : Int) : Prop := (placeS w).2.2 = 0 ∧ ((placeS w).2.1 = true → ∃ o, o ∈ L ∧ o.at_ = (placeS w).1)

theorem beginsR (l : List Obj) (hlen : l.length ≤ maxLen) (a : Int) : ACallP Try.prog 36 [objs l, iD a] (bD (l.any fun o => o.at_ == a)) := by
  obtain ⟨V, hV⟩ : ∃ V, V = (l.any fun o => o.at_ == a) := ⟨_, rfl⟩
  rw [← hV]
  refine acallp_fn [4] Try.func36 rfl rfl Try.ntmps36 (by simp) fun R hR => ?_
  (refine awp_reg_seq [0, 1] fun K hK => ?_; (repeat' ((refine al_r rfl fun K' hK' => ?_); (repeat (simp only [go_sem, simprocAttr, List.length_map])); ((refine hK' _ _ ?_) <;> clear hK' K'))); all_goals (refine al_nil ?_; (simp only [go_sem, simprocAttr, List.length_map]); refine hK _ ?_; clear hK K))
  refine awp_seq_k fun K hK => ?_
  (refine awp_reg_seq [1, 7, 8, 9] fun K hK => ?_; (repeat' ((refine al_r rfl fun K' hK' => ?_); (repeat (simp only [go_sem, simprocAttr, List.length_map])); ((first | refine hK' _ _ ?_ | refine ⟨?_, hK' _ _ ?_⟩) <;> clear hK' K' <;> (first | (show alist _ _ _ _ _ _; skip) | (intro s hs; cases hs; done))))); all_goals (refine al_nil ?_; (simp only [go_sem, simprocAttr, List.length_map]); refine hK _ ?_; clear hK K))
  refine awp_block ?_
  -- loop 0 head [1, 7, 8, 9]
  refine awp_loop_cut (fun m s => ∃ i : Nat, i ≤ l.length ∧ m = l.length - i ∧ V = ((l.drop i).any fun o => o.at_ == a) ∧ s = ⟨ofL [(1, iD a), (7, objs l), (8, iD l.length), (9, iD i)], [], 0⟩) ⟨_, 0, Nat.zero_le _, rfl, hV, rfl⟩ ?_
  clear hV
  rintro m s ⟨i, hi, hm, hV, rfl⟩
  (refine awp_reg_seq [1, 7, 8, 9, 10] fun K hK => ?_; (repeat' ((refine al_r rfl fun K' hK' => ?_); (repeat (simp only [go_sem, simprocAttr, List.length_map])); ((refine hK' _ _ ?_) <;> clear hK' K'))); all_goals (refine al_nil ?_; (simp only [go_sem, simprocAttr, List.length_map]); refine hK _ ?_; clear hK K))
  refine awp_seq_k fun K hK => ?_
  refine awp_if (decide ((i : Int) < (l.length : Int))) rfl (fun hc => ?_) (fun hc => ?_)
  · refine awp_skip ?_
    refine hK _ ?_; clear hK K
    refine awp_seq_k fun K hK => ?_
    refine awp_block ?_
    have hi2 : i < l.length := by simpa using hc
    obtain ⟨o, hget⟩ := get_of_lt hi2
    have hnn : (0 : Int) ≤ (i : Int) := Int.natCast_nonneg i
    have hnx : IntKind.i64.wrap ((i : Int) + 1) = ((i + 1 : Nat) : Int) := wrap_next hi2 hlen
    rw [drop_of hget] at hV
    have hV2 : V = ((o.at_ == a) || ((l.drop (i + 1)).any fun o => o.at_ == a)) := hV
    clear hV

    (refine awp_reg_seq [1, 6, 7, 8, 9] fun K hK => ?_; (repeat' ((first | refine al_r rfl fun K' hK' => ?_ | refine al_d rfl fun K' hK' => ?_); (repeat (first | (simp only [go_sem, simprocAttr, hget, hnn, hi2, hnx, Int.toNat_natCast, List.getElem?_map, Option.map_some, List.length_map, Obj.row]) | refine AS.mk ?_)); ((first | refine hK' _ _ ?_ | refine ⟨?_, hK' _ _ ?_⟩) <;> clear hK' K' <;> (first | (show alist _ _ _ _ _ _; skip) | (simp; done))))); all_goals (refine al_nil ?_; (simp only [go_sem, simprocAttr, hget, hnn, hi2, hnx, Int.toNat_natCast, List.getElem?_map, Option.map_some, List.length_map, Obj.row]); refine hK _ ?_; clear hK K))
    (refine awp_reg_seq [1, 7, 8, 9, 16] fun K hK => ?_; (repeat' ((refine al_r rfl fun K' hK' => ?_); (repeat (simp only [go_sem, simprocAttr, hget, hnn, hi2, hnx, Int.toNat_natCast, List.getElem?_map, Option.map_some, List.length_map, Obj.row])); ((refine hK' _ _ ?_) <;> clear hK' K'))); all_goals (refine al_nil ?_; (simp only [go_sem, simprocAttr, hget, hnn, hi2, hnx, Int.toNat_natCast, List.getElem?_map, Option.map_some, List.length_map, Obj.row]); refine hK _ ?_; clear hK K))
    refine awp_if (o.at_ == a) rfl (fun hc => ?_) (fun hc => ?_)
    · (refine awp_reg_seq [4] fun K hK => ?_; (repeat' ((refine al_r rfl fun K' hK' => ?_); (repeat (simp only [go_sem, simprocAttr, hget, hnn, hi2, hnx, Int.toNat_natCast, List.getElem?_map, Option.map_some, List.length_map, Obj.row])); ((refine hK' _ _ ?_) <;> clear hK' K'))); all_goals (refine al_nil ?_; (simp only [go_sem, simprocAttr, hget, hnn, hi2, hnx, Int.toNat_natCast, List.getElem?_map, Option.map_some, List.length_map, Obj.row]); refine hK _ ?_; clear hK K))
      refine awp_ret ?_; (refine hR _ _ (.inl rfl) rfl ?_)
      rw [hV2, hc]
      simp only [go_sem, simprocAttr, hget, hnn, hi2, hnx, Int.toNat_natCast, List.getElem?_map, Option.map_some, List.length_map, Obj.row, Bool.true_or]
    · rw [hc, Bool.false_or] at hV2
      refine awp_skip ?_
      refine hK _ ?_; clear hK K
      (refine awp_reg_end [1, 7, 8, 9] fun K hK => ?_; (repeat' ((refine al_r rfl fun K' hK' => ?_); (repeat (simp only [go_sem, simprocAttr, hget, hnn, hi2, hnx, Int.toNat_natCast, List.getElem?_map, Option.map_some, List.length_map, Obj.row])); ((refine hK' _ _ ?_) <;> clear hK' K'))); all_goals (refine al_nil ?_; (simp only [go_sem, simprocAttr, hget, hnn, hi2, hnx, Int.toNat_natCast, List.getElem?_map, Option.map_some, List.length_map, Obj.row]); refine hK _ ?_; clear hK K))
      exact ⟨l.length - (i + 1), by omega, [1, 7, 8, 9], [], by decide, by intro q hq; exact absurd hq (Nat.not_lt_zero q), i + 1, hi2, rfl, hV2, rfl⟩

  · have hie : i = l.length := by simp at hc; omega
    rw [hie, List.drop_length] at hV
    refine awp_exit ?_
    clear hK
    refine hK _ ?_; clear hK K
    (refine awp_reg_seq [4] fun K hK => ?_; (repeat' ((refine al_r rfl fun K' hK' => ?_); (repeat (simp only [go_sem, simprocAttr, List.length_map])); ((refine hK' _ _ ?_) <;> clear hK' K'))); all_goals (refine al_nil ?_; (simp only [go_sem, simprocAttr, List.length_map]); refine hK _ ?_; clear hK K))
    refine awp_ret ?_; (refine hR _ _ (.inl rfl) rfl ?_)
    rw [hV]
    simp only [go_sem, simprocAttr, List.length_map]
    try rfl
end Go.Proofs.Ytagphggcdmjlpaa.P

/- The copier, in plain words: one word, one part. -/
namespace Go.Proofs.Ytagphggcdmjlpaa.P
open Go.Ab Go.Proofs.Ytagphggcdmjlpaa.T

/-- Does a word name a place that goes over? -/
def toY (low w : Int) : Bool := (placeS w).2.1 && decide (low ≤ (placeS w).1)

def Known (low : Int) (mv : List (Int × Int)) (w : Int) : Prop := toY low w = true → ∃ t, lk mv (placeS w).1 = some t

/-- What a word is turned to. -/
def phi (low : Int) (mv : List (Int × Int)) (w : Int) : Int := if toY low w then (match lk mv (placeS w).1 with | some t => (wordS 4 t).1 | none => w) else w

def Sub (mv mv' : List (Int × Int)) : Prop := ∀ a t, lk mv a = some t → lk mv' a = some t

theorem known_sub {low w : Int} {mv mv' : List (Int × Int)} (h : Sub mv mv') (hk : Known low mv w) : Known low mv' w := fun ht => by
  obtain ⟨t, e⟩ := hk ht
  exact ⟨t, h _ _ e⟩

theorem phi_some {low w t : Int} {mv : List (Int × Int)} (h1 : toY low w = true) (h2 : lk mv (placeS w).1 = some t) : phi low mv w = (wordS 4 t).1 := by
  unfold phi; rw [if_pos h1, h2]

theorem phi_not {low w : Int} {mv : List (Int × Int)} (h1 : toY low w = false) : phi low mv w = w := by
  unfold phi; rw [if_neg (by rw [h1]; exact Bool.false_ne_true)]

theorem phi_sub {low w : Int} {mv mv' : List (Int × Int)} (h : Sub mv mv') (hk : Known low mv w) : phi low mv' w = phi low mv w := by
  cases ht : toY low w with
  | false => rw [phi_not ht, phi_not ht]
  | true =>
    obtain ⟨t, e⟩ := hk ht
    rw [phi_some ht e, phi_some ht (h _ _ e)]

/-- An object of the new heap, and the one that it stands for; so many of its parts are turned. -/
structure Src (L : List Obj) (low : Int) (st : Int → Nat) (mv : List (Int × Int)) (x o : Obj) : Prop where
  mem : o ∈ L
  lo : x.at_ < low → o.at_ = x.at_
  hi : low ≤ x.at_ → low ≤ o.at_ ∧ lk mv o.at_ = some x.at_
  kind : x.kind = o.kind
  num : x.num = o.num
  text : x.text = o.text
  parts : x.parts = (o.parts.take (st x.at_)).map (phi low mv) ++ o.parts.drop (st x.at_)
  known : ∀ p, p ∈ o.parts.take (st x.at_) → Known low mv p

theorem Src.len {L : List Obj} {low : Int} {st : Int → Nat} {mv : List (Int × Int)} {x o : Obj} (h : Src L low st mv x o) : x.parts.length = o.parts.length := by
  rw [h.parts, List.length_append, List.length_map, List.length_take, List.length_drop]; omega

theorem Src.sub {L : List Obj} {low : Int} {st : Int → Nat} {mv mv' : List (Int × Int)} {x o : Obj} (hs : Sub mv mv') (h : Src L low st mv x o) : Src L low st mv' x o where
  mem := h.mem
  lo := h.lo
  hi := fun hx => ⟨(h.hi hx).1, hs _ _ (h.hi hx).2⟩
  kind := h.kind
  num := h.num
  text := h.text
  parts := by
    rw [h.parts]
    congr 1
    exact List.map_congr_left fun p hp => (phi_sub hs (h.known p hp)).symm
  known := fun p hp => known_sub hs (h.known p hp)

/-- Is it to be copied yet? -/
def leftB (low : Int) (mv : List (Int × Int)) (o : Obj) : Bool := decide (low ≤ o.at_) && (lk mv o.at_).isNone

/-- What is so all the time while the copier runs. -/
structure Inv (L : List Obj) (low : Int) (Rch : Int → Prop) (st : Int → Nat) (T : List Obj) (mv : List (Int × Int)) : Prop where
  placed : Placed T
  src : ∀ x, x ∈ T → ∃ o, Src L low st mv x o
  dst : ∀ a t, lk mv a = some t → Rch a ∧ low ≤ t ∧ ∃ x, x ∈ T ∧ x.at_ = t
  kept : ∀ o, o ∈ L → o.at_ < low → ∃ x, x ∈ T ∧ x.at_ = o.at_
  lowT : low ≤ (flat T).length
  fresh : ∀ a : Int, ((flat T).length : Int) ≤ a → st a = 0
  size : (flat T).length + restN (leftB low mv) L = (flat L).length
  inj : ∀ a b t, lk mv a = some t → lk mv b = some t → a = b

def upd (st : Int → Nat) (a : Int) (v : Nat) : Int → Nat := fun b => if b = a then v else st b
theorem upd_same (st : Int → Nat) (a : Int) (v : Nat) : upd st a v a = v := if_pos rfl
theorem set_turn {f : Int → Int} {l : List Int} {i : Nat} {w : Int} (h : l[i]? = some w) : ((l.take i).map f ++ l.drop i).set i (f w) = (l.take (i + 1)).map f ++ l.drop (i + 1) := by
  have hi := lt_of_get h
  have hl : ((l.take i).map f).length = i := by rw [List.length_map, List.length_take]; omega
  rw [List.set_append_right _ _ (by omega), hl, Nat.sub_self, drop_of h, List.set_cons_zero, take_succ_of h, List.map_append, List.append_assoc]
  rfl

theorem Src.set {L : List Obj} {low : Int} {st : Int → Nat} {mv : List (Int × Int)} {x o : Obj} {i : Nat} {w : Int} (h : Src L low st mv x o) (hst : st x.at_ = i) (hw : x.parts[i]? = some w) (hk : Known low mv w) :
    Src L low (upd st x.at_ (i + 1)) mv (setPart x i (phi low mv w)) o := by
  have hp := h.parts
  rw [hst] at hp
  have hil := lt_of_get hw
  have hlen := h.len
  have ho : o.parts[i]? = some w := by
    rw [hp, List.getElem?_append_right (by rw [List.length_map, List.length_take]; omega), List.length_map, List.length_take, List.getElem?_drop] at hw
    rw [← hw]; congr 1; omega
  have e : (upd st x.at_ (i + 1)) (setPart x i (phi low mv w)).at_ = i + 1 := upd_same _ _ _
  refine ⟨h.mem, h.lo, h.hi, h.kind, h.num, h.text, ?_, fun p hpm => ?_⟩
  · rw [e]
    show x.parts.set i _ = _
    rw [hp, set_turn ho]
  · rw [e, take_succ_of ho] at hpm
    rcases List.mem_append.1 hpm with hpm | hpm
    · exact h.known p (by rw [hst]; exact hpm)
    · rcases List.mem_singleton.1 hpm with rfl; exact hk

end Go.Proofs.Ytagphggcdmjlpaa.P

/- The copier, in plain words: parts, late ones, roots, and the scan. -/
namespace Go.Proofs.Ytagphggcdmjlpaa.P
open Go.Ab Go.Proofs.Ytagphggcdmjlpaa.T

theorem Inv.small {L : List Obj} {low : Int} {Rch : Int → Prop} {st : Int → Nat} {T : List Obj} {mv : List (Int × Int)} (hi : Inv L low Rch st T mv) : (flat T).length ≤ (flat L).length := by
  have := hi.size; omega

theorem Inv.congr {L : List Obj} {low : Int} {Rch : Int → Prop} {st st' : Int → Nat} {T : List Obj} {mv : List (Int × Int)} (hi : Inv L low Rch st T mv) (h1 : ∀ x, x ∈ T → st' x.at_ = st x.at_) (h2 : ∀ a : Int, ((flat T).length : Int) ≤ a → st' a = 0) : Inv L low Rch st' T mv := by
  refine ⟨hi.placed, fun x hx => ?_, hi.dst, hi.kept, hi.lowT, h2, hi.size, hi.inj⟩
  obtain ⟨o, h⟩ := hi.src x hx
  have e := h1 x hx
  exact ⟨o, h.mem, h.lo, h.hi, h.kind, h.num, h.text, by rw [e]; exact h.parts, by rw [e]; exact h.known⟩

end Go.Proofs.Ytagphggcdmjlpaa.P

/- A value is read as it lies in a heap: a contract. -/
namespace Go.Proofs.Ytagphggcdmjlpaa.P
open Go.Ab Go.Proofs.Ytagphggcdmjlpaa.T

/-- Words and values, pairwise; how deep at most, how many together. -/
def RepL (R : Int → List PV → Nat → Nat → Prop) : List Int → List (List PV) → Nat → Nat → Prop
  | [], [], d, c => d = 0 ∧ c = 0
  | w :: ws, x :: xs, d, c => ∃ d1 c1 d2 c2, R w x d1 c1 ∧ RepL R ws xs d2 c2 ∧ d = max d1 d2 ∧ c = c1 + c2
  | _, _, _, _ => False

/-- A word of a heap is a value, so deep, of so many nodes. -/
def Rep (g : List Int) : Nat → Int → List PV → Nat → Nat → Prop
  | 0, _, _, _, _ => False
  | f + 1, w, xs, d, c => ∃ k n text args, xs = [.lit (.int .i64 k), .lit (.int .i64 n), .lit (.string text), .sl args] ∧
    (((ofS k n text args).2 = true ∧ w = (ofS k n text args).1 ∧ d = 1 ∧ c = 1) ∨
     (∃ (a : Nat) (o : Obj) (d0 c0 : Nat), a ≤ 4000 ∧ w = (wordS 4 a).1 ∧ atS g a = (o, 0) ∧ rightS o = true ∧ kindsS o.kind = k ∧ o.num = n ∧ o.text = text ∧ RepL (Rep g f) o.parts args d0 c0 ∧ d = d0 + 1 ∧ c = c0 + 1))

theorem RepL.len {R : Int → List PV → Nat → Nat → Prop} : ∀ {ws : List Int} {xs : List (List PV)} {d c : Nat}, RepL R ws xs d c → ws.length = xs.length
  | [], [], _, _, _ => rfl
  | w :: ws, x :: xs, d, c, h => by
    obtain ⟨_, _, _, _, _, h, _⟩ := h
    simp [h.len]

theorem RepL.mono {R R' : Int → List PV → Nat → Nat → Prop} (hR : ∀ w x d c, R w x d c → R' w x d c) : ∀ {ws : List Int} {xs : List (List PV)} {d c : Nat}, RepL R ws xs d c → RepL R' ws xs d c
  | [], [], _, _, h => h
  | w :: ws, x :: xs, d, c, h => by
    obtain ⟨d1, c1, d2, c2, h1, h2, h3, h4⟩ := h
    exact ⟨d1, c1, d2, c2, hR _ _ _ _ h1, h2.mono hR, h3, h4⟩

theorem Rep.mono {g : List Int} : ∀ {f f' : Nat}, f ≤ f' → ∀ w xs d c, Rep g f w xs d c → Rep g f' w xs d c
  | 0, _, _, _, _, _, _, h => h.elim
  | f + 1, 0, hf, _, _, _, _, _ => by omega
  | f + 1, f' + 1, hf, w, xs, d, c, h => by
    obtain ⟨k, n, text, args, e, h | ⟨a, o, d0, c0, h1, h2, h3, h4, h5, h6, h7, h8, h9⟩⟩ := h
    · exact ⟨k, n, text, args, e, .inl h⟩
    · exact ⟨k, n, text, args, e, .inr ⟨a, o, d0, c0, h1, h2, h3, h4, h5, h6, h7, h8.mono (Rep.mono (by omega)), h9⟩⟩

theorem Rep.one {g : List Int} {f : Nat} {w : Int} {xs : List PV} {d c : Nat} (h : Rep g f w xs d c) : 1 ≤ d ∧ 1 ≤ c := by
  cases f with
  | zero => exact h.elim
  | succ f =>
    obtain ⟨k, n, text, args, e, h | ⟨a, o, d0, c0, _, _, _, _, _, _, _, _, h1, h2⟩⟩ := h
    · omega
    · omega

theorem RepL.zero {g : List Int} {f : Nat} {ws : List Int} {xs : List (List PV)} {d c : Nat} (h : RepL (Rep g f) ws xs d c) : ws.length ≤ c := by
  induction ws generalizing xs d c with
  | nil => exact Nat.zero_le _
  | cons w ws ih =>
    cases xs with
    | nil => exact h.elim
    | cons x xs =>
      obtain ⟨d1, c1, d2, c2, h1, h2, h3, h4⟩ := h
      have := ih h2
      have := h1.one
      simp only [List.length_cons]; omega

theorem text_nil {t : ByteArray} (h : (t.toList == (ByteArray.mk #[]).toList) = true) : t = ByteArray.empty := by
  rw [ByteArray.toList_eq, ByteArray.toList_eq] at h
  have h : t.data.toList = [] := by simpa using h
  obtain ⟨d⟩ := t
  have : d = #[] := by simpa using h
  subst this
  rfl

theorem word4_read {a : Nat} (h : a ≤ 4000) : readS (wordS 4 (a : Int)).1 = (4, (a : Int), 0) := by
  have : fits 4 (a : Int) = true := by
    unfold fits
    have h1 : decide ((a : Int) ≥ 0) = true := by simp
    have h2 : decide ((a : Int) < 1152921504606846976) = true := by simp; omega
    rw [h1, h2]; simp
  exact read_word this

theorem left_small {l : Int} (h : 1 ≤ l) (h2 : l ≤ 100000) : IntKind.i64.wrap (l - 1) = l - 1 := Go.Ab.wrap_small (by omega) (by omega)


theorem readLeaf (g : List Int) (w k n nest left : Int) (hva : ACallP Try.prog 81 [wD w] (.tup [.agg [iD k, iD n, .p (.lit (.string ByteArray.empty)), .p (.sl [])], bD true])) (hl1 : 1 ≤ left) (hl2 : left ≤ 100000) (hn : 1 ≤ nest) :
    ACalls Try.prog 58 [words g, wD w, iD nest, .ptr 0 0 0] [.box [iD left]] (fun r obs' => r = .tup [valD k n ByteArray.empty [], iD 0] ∧ obs' = [.box [iD (left - 1)]]) := by
  have hwl := left_small hl1 hl2
  have c1 : decide (left - 1 < 0) = false := by simp; omega
  have c2 : decide (nest < 1) = false := by simp; omega
  refine acallm_fnv [.cell 8 38, .tmp 9] Try.func58 rfl rfl Try.ntmps58 (by simp) (by simp) fun R hR => ?_
  (refine awp_reg_seq [0, 1, 2, 3, 8] fun K hK => ?_; (repeat' ((refine al_r rfl fun K' hK' => ?_); (repeat (simp only [go_sem, simprocAttr])); ((refine hK' _ _ ?_) <;> clear hK' K'))); all_goals (refine al_nil ?_; (simp only [go_sem, simprocAttr]); refine hK _ ?_; clear hK K))
  refine awp_seq_k fun K hK => ?_

  (refine awp_reg_seq [0, 1, 2, 3, 8] fun K hK => ?_; (repeat' ((first | refine al_r rfl fun K' hK' => ?_ | refine al_d rfl fun K' hK' => ?_); (repeat (first | (simp only [go_sem, simprocAttr, hwl, c1, c2]) | refine AS.mk ?_)); ((first | refine hK' _ _ ?_ | refine ⟨?_, hK' _ _ ?_⟩) <;> clear hK' K' <;> (first | (show alist _ _ _ _ _ _; skip) | (simp; done))))); all_goals (refine al_nil ?_; (simp only [go_sem, simprocAttr, hwl, c1, c2]); refine hK _ ?_; clear hK K))
  (refine awp_reg_tov [0, 1, 2, 3, 8, 33] [(33, bD false)] (h := ?_) (k := ?_); · ((repeat' ((first | refine al_r rfl fun K' hK' => ?_ | refine al_t rfl rfl fun K' hK' => ?_); (repeat (simp only [go_sem, simprocAttr, hwl, c1, c2])); ((refine hK' _ _ ?_) <;> clear hK' K'))); all_goals (refine al_nil ?_; simp only [go_sem, simprocAttr, hwl, c1, c2, *, Bool.and_true, Bool.and_false, Bool.true_and, Bool.false_and, Bool.or_true, Bool.true_or, Bool.or_false, Bool.false_or, Bool.not_true, Bool.not_false, Bool.false_eq_true]))); intro K hK; (simp only [go_sem, simprocAttr, hwl, c1, c2]); refine hK _ ?_; clear hK K
  refine awp_if (_) rfl (fun hc => ?_) (fun hc => ?_)
  · cases hc
  · refine awp_skip ?_
    refine hK _ ?_; clear hK K
    refine awp_seq_k fun K hK => ?_
    (refine awp_reg_seq [0, 1, 2, 3, 8, 10, 11] fun K hK => ?_; (repeat' ((first | refine al_r rfl fun K' hK' => ?_ | refine al_d rfl fun K' hK' => ?_); (repeat (first | (simp only [go_sem, simprocAttr, hwl, c1, c2]) | refine AS.mk ?_)); (first | ((first | refine hK' _ _ ?_ | refine ⟨?_, hK' _ _ ?_⟩) <;> clear hK' K' <;> (first | (show alist _ _ _ _ _ _; skip) | (simp; done))) | ((show AC _ _ (D.fn 81 _) _ _); refine acall_p (f := 81) (e := rfl) (hr := rfl) (k := hK' _ _ ?_) (hc := Try.call81) (h := hva); clear hK' K')))); all_goals (refine al_nil ?_; (simp only [go_sem, simprocAttr, hwl, c1, c2]); refine hK _ ?_; clear hK K))
    (refine awp_frz [0, 1, 2, 3, 8, 10, 11] [0, 1] (by decide) (by (simp; done)) ?_; simp only [go_sem, simprocAttr, hwl, c1, c2])
    (refine awp_reg_seq [0, 1, 2, 3, 8, 10, 40] fun K hK => ?_; (repeat' ((refine al_r rfl fun K' hK' => ?_); (repeat (simp only [go_sem, simprocAttr, hwl, c1, c2])); ((refine hK' _ _ ?_) <;> clear hK' K'))); all_goals (refine al_nil ?_; (simp only [go_sem, simprocAttr, hwl, c1, c2]); refine hK _ ?_; clear hK K))
    refine awp_if (_) rfl (fun hc => ?_) (fun hc => ?_)
    · (refine awp_reg_seq [8, 9] fun K hK => ?_; (repeat' ((first | refine al_r rfl fun K' hK' => ?_ | refine al_d rfl fun K' hK' => ?_); (repeat (first | (simp only [go_sem, simprocAttr, hwl, c1, c2]) | refine AS.mk ?_)); ((first | refine hK' _ _ ?_ | refine ⟨?_, hK' _ _ ?_⟩) <;> clear hK' K' <;> (first | (show alist _ _ _ _ _ _; skip) | (simp; done))))); all_goals (refine al_nil ?_; (simp only [go_sem, simprocAttr, hwl, c1, c2]); refine hK _ ?_; clear hK K))
      (refine awp_frz [8, 9] [0] (by decide) (by (simp; done)) ?_; simp only [go_sem, simprocAttr, hwl, c1, c2])
      refine awp_ret (hR _ _ (.inl rfl) rfl ⟨[0], (.tup [valD k n ByteArray.empty [], iD 0]), by decide, by simp only [List.length_cons, List.length_nil]; decide, ?_, ?_⟩)
      · simp only [go_sem, simprocAttr, hwl, c1, c2]
      · refine ⟨?_, ?_⟩ <;> simp only [go_sem, simprocAttr, hwl, c1, c2]
    · cases hc
end Go.Proofs.Ytagphggcdmjlpaa.P

/- What Minor and Major answer, of ages that are right. -/
namespace Go.Proofs.Ytagphggcdmjlpaa.P
open Go.Ab Go.Proofs.Ytagphggcdmjlpaa.T

theorem place_word {t : Nat} (h : t ≤ 4000) : placeS (wordS 4 (t : Int)).1 = ((t : Int), true, 0) := by
  unfold placeS
  rw [word4_read h]
  rfl

end Go.Proofs.Ytagphggcdmjlpaa.P

/- What Over copies: the invariant goes on, whatever word is carried over. -/
namespace Go.Proofs.Ytagphggcdmjlpaa.P
open Go.Ab Go.Proofs.Ytagphggcdmjlpaa.T

theorem lk_none : ∀ {m : List (Int × Int)} {a : Int}, lk m a = none → a ∉ m.map Prod.fst
  | [], _, _ => by simp
  | (c, d) :: l, a, h => by
    have e2 : lk ((c, d) :: l) a = if c = a then some d else lk l a := rfl
    rw [e2] at h
    split at h
    · cases h
    · rename_i hc
      rw [List.map_cons, List.mem_cons, not_or]
      exact ⟨fun e => hc e.symm, lk_none h⟩

theorem lk_key : ∀ {m : List (Int × Int)} {a : Int}, a ∈ m.map Prod.fst → ∃ x, lk m a = some x
  | [], _, h => by simp at h
  | (c, d) :: l, a, h => by
    have e2 : lk ((c, d) :: l) a = if c = a then some d else lk l a := rfl
    rw [e2]
    by_cases hc : c = a
    · exact ⟨d, if_pos hc⟩
    · rw [if_neg hc]
      rw [List.map_cons, List.mem_cons] at h
      rcases h with h | h
      · exact absurd h.symm hc
      · exact lk_key h

theorem obj_of {g : List Int} (hg4 : g.length ≤ 4000) (hgo : ∀ w, w ∈ g → WordOk w) {a : Int} {o : Obj} (ho : atS g a = (o, 0)) : ∃ n : Nat, a = n ∧ o.at_ = n ∧ ObjOk o ∧ n + (encW o).length ≤ g.length ∧ encW o = (g.drop n).take (encW o).length := by
  have h := at_ok (a := a) (h := g) (by rw [ho]) (Nat.le_trans hg4 (by simp [maxLen])) hgo
  have hn := at_num g a
  rw [ho] at h hn
  obtain ⟨n, h1, h2, h3, h4, h5, h6, h7⟩ := h
  refine ⟨n, h1, h3, ⟨h4, hn, fun w hw => ?_⟩, h6, h7⟩
  have : w ∈ encW o := by
    unfold encW
    simp [hw]
  rw [h7] at this
  exact hgo w (List.mem_of_mem_drop (List.mem_of_mem_take this))

theorem subK_refl (mv : List (Int × Int)) : SubK mv mv := fun _ _ h => h
theorem SubK.trans {a b c : List (Int × Int)} (h : SubK a b) (h' : SubK b c) : SubK a c := fun x t e => h' x t (h x t e)

/-- An object is put. -/
theorem put_inv {g : List Int} {L : List Obj} {S S' : CT} {o : Obj} {a x : Int} (hi : InvK g L S) (ho : atS g a = (o, 0)) (hoa : o.at_ = a) (hok : ObjOk o) (hgood : GoodK g a)
    (hk : ∀ p, p ∈ o.parts → KnownK S.2.2 p) (hl : lk S.2.2 a = none) (hp : putK S { o with parts := o.parts.map (phiK S.2.2) } = ((x, 0), S')) : InvK g L S' ∧ S'.2.2 = S.2.2 ++ [(a, x)] := by
  obtain ⟨N, hN1, hN2, hN3, hN4, hN5⟩ := hi.ex
  unfold putK at hp
  by_cases he : (putS S.2.1 { o with parts := o.parts.map (phiK S.2.2) }).2.2 = 0
  · rw [if_neg (by simp [he])] at hp
    have hpo : ObjOk { o with parts := o.parts.map (phiK S.2.2) } := by
      refine ⟨(right_len (by simp)).trans hok.1, hok.2.1, fun w hw => ?_⟩
      obtain ⟨p, hpm, rfl⟩ := List.mem_map.1 hw
      unfold phiK
      split
      · split
        · rename_i y hy
          obtain ⟨_, t, q, o', _, _, _, e, _⟩ := hN5 _ _ hy
          rw [e]; exact wordS_ok _ _
        · exact hok.2.2 p hpm
      · exact hok.2.2 p hpm
    obtain ⟨p1, p2⟩ := placed_snoc hN1 hpo
    have hlen := putS_len2 he
    have hput : putS S.2.1 { o with parts := o.parts.map (phiK S.2.2) } = (S.2.1 ++ encW { o with parts := o.parts.map (phiK S.2.2) }, (S.2.1.length : Int), 0) := by
      unfold putS at he ⊢
      split at he
      · cases he
      · split at he
        · cases he
        · rename_i h1 h2
          rw [if_neg h1, if_neg h2]
    rw [hput] at hp hlen
    simp only at hp hlen
    have e1 := (Prod.mk.inj hp).1
    have e2 := (Prod.mk.inj hp).2
    have hx : x = (wordS 4 (S.2.1.length : Int)).1 := by rw [e1]
    subst e2
    have hmv : ups S.2.2 o.at_ (wordS 4 (S.2.1.length : Int)).1 = S.2.2 ++ [(a, x)] := by rw [hoa, hx]; exact ups_new _ hl
    have h4 : S.2.1.length ≤ 4000 := by rw [hN2]; exact hN3
    have hsub : SubK S.2.2 (S.2.2 ++ [(a, x)]) := fun b t hb => by rw [lk_end, hb]
    refine ⟨⟨⟨N ++ [({ o with parts := o.parts.map (phiK S.2.2) } : Obj).to (flat (L ++ N)).length], ?_, ?_, ?_, ?_, ?_⟩, ?_, ?_⟩, hmv⟩
    · rw [← List.append_assoc]; exact p1
    · show S.2.1 ++ encW _ = _
      rw [← List.append_assoc, p2, hN2]
    · rw [← List.append_assoc, p2, ← hN2]; exact hlen
    · show _ = (ups S.2.2 o.at_ (wordS 4 (S.2.1.length : Int)).1).length
      rw [hmv]; simp [hN4]
    · show ∀ b y, lk (ups S.2.2 o.at_ (wordS 4 (S.2.1.length : Int)).1) b = some y → _
      intro b y hb
      show GoodK g b ∧ ∃ (t : Nat) (q o' : Obj), _ ∧ _ ∧ _ ∧ _ ∧ _ ∧ _ ∧ _ ∧ _ ∧ q.parts = o'.parts.map (phiK (ups S.2.2 o.at_ (wordS 4 (S.2.1.length : Int)).1)) ∧ ∀ p, p ∈ o'.parts → KnownK (ups S.2.2 o.at_ (wordS 4 (S.2.1.length : Int)).1) p
      rw [hmv] at hb ⊢
      rw [lk_end] at hb
      cases hlb : lk S.2.2 b with
      | some y' =>
        rw [hlb] at hb
        cases hb
        obtain ⟨g1, t, q, o', q1, q2, q3, q4, q5, q6, q7, q8, q9, q10⟩ := hN5 b y hlb
        refine ⟨g1, t, q, o', List.mem_append_left _ q1, q2, q3, q4, q5, q6, q7, q8, ?_, fun p hp => knownK_sub hsub (q10 p hp)⟩
        rw [q9]
        exact List.map_congr_left fun p hp => (phiK_sub hsub (q10 p hp)).symm
      | none =>
        rw [hlb] at hb
        dsimp only at hb
        split at hb
        · rename_i hab
          cases hb
          subst hab
          refine ⟨hgood, S.2.1.length, _, o, List.mem_append_right _ (List.mem_singleton.2 rfl), ?_, h4, hx, ho, rfl, rfl, rfl, ?_, fun p hp => knownK_sub hsub (hk p hp)⟩
          · show (((flat (L ++ N)).length : Nat) : Int) = _
            rw [hN2]
          · show o.parts.map (phiK S.2.2) = _
            exact List.map_congr_left fun p hp => (phiK_sub hsub (hk p hp)).symm
        · cases hb
    · show ∀ b c y, lk (ups S.2.2 o.at_ (wordS 4 (S.2.1.length : Int)).1) b = some y → lk (ups S.2.2 o.at_ (wordS 4 (S.2.1.length : Int)).1) c = some y → b = c
      rw [hmv]
      have hne : ∀ b, lk S.2.2 b ≠ some x := fun b hb => by
        obtain ⟨_, t, q, o', q1, q2, q3, q4, _⟩ := hN5 b x hb
        have h1 := place_word q3
        have h2 := place_word h4
        rw [← q4, hx, h2] at h1
        have h3 : ((S.2.1.length : Nat) : Int) = t := (Prod.mk.inj h1).1
        obtain ⟨m, m1, m2⟩ := placed_len hN1 (List.mem_append_right L q1)
        have m3 : 1 ≤ (encW q).length := by unfold encW; simp
        rw [← hN2] at m2
        omega
      intro b c y hb hc
      rw [lk_end] at hb hc
      cases hlb : lk S.2.2 b with
      | some y1 =>
        rw [hlb] at hb
        cases hb
        cases hlc : lk S.2.2 c with
        | some y2 =>
          rw [hlc] at hc
          cases hc
          exact hi.inj _ _ _ hlb hlc
        | none =>
          rw [hlc] at hc
          dsimp only at hc
          split at hc
          · cases hc; exact absurd hlb (hne b)
          · cases hc
      | none =>
        rw [hlb] at hb
        dsimp only at hb
        split at hb
        · rename_i hab
          cases hb
          cases hlc : lk S.2.2 c with
          | some y2 =>
            rw [hlc] at hc
            cases hc
            exact absurd hlc (hne c)
          | none =>
            rw [hlc] at hc
            dsimp only at hc
            split at hc
            · rename_i hac; rw [← hab, ← hac]
            · cases hc
        · cases hb
    · show ((ups S.2.2 o.at_ (wordS 4 (S.2.1.length : Int)).1).map Prod.fst).Nodup
      rw [hmv, List.map_append, List.nodup_append]
      refine ⟨hi.nd, by simp, fun b hb c hc => ?_⟩
      simp at hc
      subst hc
      intro e
      subst e
      exact lk_none hl hb
  · rw [if_pos (by simpa using he)] at hp
    have := (Prod.mk.inj (Prod.mk.inj hp).1).2
    exact absurd this he

/-- What carrying a word over comes to. -/
def GoesK (g : List Int) (L : List Obj) (S S' : CT) (w x : Int) : Prop :=
  InvK g L S' ∧ SubK S.2.2 S'.2.2 ∧ KnownK S'.2.2 w ∧ x = phiK S'.2.2 w ∧ ((placeS w).2.1 = true → GoodK g (placeS w).1) ∧ ∀ a y, lk S'.2.2 a = some y → lk S.2.2 a = none → ReachK g w a

theorem parts_inv {g : List Int} {L : List Obj} {F : CT → Int → (Int × Int) × CT} : ∀ (ps acc : List Int) (S S' : CT) (acc' : List Int), (∀ p, p ∈ ps → ∀ S x S', InvK g L S → F S p = ((x, 0), S') → GoesK g L S S' p x) → InvK g L S →
    partsK F S ps acc = ((acc', 0), S') → InvK g L S' ∧ SubK S.2.2 S'.2.2 ∧ acc' = acc ++ ps.map (phiK S'.2.2) ∧ (∀ p, p ∈ ps → KnownK S'.2.2 p ∧ ((placeS p).2.1 = true → GoodK g (placeS p).1)) ∧ ∀ a y, lk S'.2.2 a = some y → lk S.2.2 a = none → ∃ p, p ∈ ps ∧ ReachK g p a
  | [], acc, S, S', acc', _, hi, h => by
    have e : partsK F S [] acc = ((acc, 0), S) := rfl
    rw [e] at h
    cases h
    exact ⟨hi, subK_refl _, by simp, fun p hp => (by cases hp), fun a y h1 h2 => by rw [h2] at h1; cases h1⟩
  | p :: l, acc, S, S', acc', hF, hi, h => by
    rw [parts_consK] at h
    split at h
    · rename_i he
      have := (Prod.mk.inj (Prod.mk.inj h).1).2
      rw [this] at he
      exact absurd he (by simp)
    · rename_i he
      have he0 : (F S p).1.2 = 0 := by simpa using he
      have h1 := hF p List.mem_cons_self S (F S p).1.1 (F S p).2 hi (by rw [← he0])
      obtain ⟨a1, a2, a3, a4, a5, a6⟩ := h1
      obtain ⟨b1, b2, b3, b4, b5⟩ := parts_inv l _ _ S' acc' (fun q hq => hF q (List.mem_cons_of_mem _ hq)) a1 h
      refine ⟨b1, a2.trans b2, ?_, fun q hq => ?_, fun a y h1 h2 => ?_⟩
      · rw [b3, a4, List.map_cons, List.append_assoc, phiK_sub b2 a3]; rfl
      · rcases List.mem_cons.1 hq with rfl | hq
        · exact ⟨knownK_sub b2 a3, a5⟩
        · exact b4 q hq
      · cases hl : lk (F S p).2.2.2 a with
        | some z => exact ⟨p, List.mem_cons_self, a6 a z hl h2⟩
        | none =>
          obtain ⟨q, hq, hr⟩ := b5 a y h1 hl
          exact ⟨q, List.mem_cons_of_mem _ hq, hr⟩

theorem place_cond (w : Int) : (placeS w).2.1 = !((readS w).2.2 != 0 || (readS w).1 != 4) := by
  unfold placeS
  generalize (readS w).2.2 = e
  generalize (readS w).1 = t
  simp only [bne, Bool.not_or, Bool.not_not]

theorem word_inv {g : List Int} (hg4 : g.length ≤ 4000) (hgo : ∀ w, w ∈ g → WordOk w) {L : List Obj} : ∀ (n : Nat) (S : CT) (w x : Int) (S' : CT), InvK g L S → wordK g n S w = ((x, 0), S') → GoesK g L S S' w x := by
  intro n
  induction n with
  | zero =>
    intro S w x S' hi h
    by_cases hc : ((readS w).2.2 != 0 || (readS w).1 != 4) = true
    · rw [wordK_triv 0 hc] at h
      obtain ⟨h1, rfl⟩ := Prod.mk.inj h
      obtain ⟨rfl, h2⟩ := Prod.mk.inj h1
      have hp : (placeS w).2.1 = false := by rw [place_cond, hc]; rfl
      exact ⟨hi, subK_refl _, ⟨h2, fun e => by rw [hp] at e; cases e⟩, (phiK_not hp).symm, fun e => (by rw [hp] at e; cases e), fun a y h1 h2 => by rw [h2] at h1; cases h1⟩
    · cases hl : lk S.2.2 (readS w).2.1 with
      | some z =>
        rw [wordK_done 0 hc hl] at h
        obtain ⟨h1, rfl⟩ := Prod.mk.inj h
        obtain ⟨rfl, _⟩ := Prod.mk.inj h1
        have hp : (placeS w).2.1 = true := by rw [place_cond]; simpa using hc
        obtain ⟨N, hN1, hN2, hN3, hN4, hN5⟩ := hi.ex
        have h0 : (placeS w).2.2 = 0 := by
          simp only [Bool.or_eq_true, not_or] at hc
          exact show (readS w).2.2 = 0 by simpa using hc.1
        exact ⟨hi, subK_refl _, ⟨h0, fun _ => ⟨z, hl⟩⟩, (phiK_some hp hl).symm, fun _ => (hN5 _ _ hl).1, fun a y h1 h2 => by rw [h2] at h1; cases h1⟩
      | none =>
        rw [wordK_deep hc hl] at h
        cases h
  | succ n ih =>
    intro S w x S' hi h
    by_cases hc : ((readS w).2.2 != 0 || (readS w).1 != 4) = true
    · rw [wordK_triv _ hc] at h
      obtain ⟨h1, rfl⟩ := Prod.mk.inj h
      obtain ⟨rfl, h2⟩ := Prod.mk.inj h1
      have hp : (placeS w).2.1 = false := by rw [place_cond, hc]; rfl
      exact ⟨hi, subK_refl _, ⟨h2, fun e => by rw [hp] at e; cases e⟩, (phiK_not hp).symm, fun e => (by rw [hp] at e; cases e), fun a y h1 h2 => by rw [h2] at h1; cases h1⟩
    · have hp : (placeS w).2.1 = true := by rw [place_cond]; simpa using hc
      have h0 : (placeS w).2.2 = 0 := by
        simp only [Bool.or_eq_true, not_or] at hc
        exact show (readS w).2.2 = 0 by simpa using hc.1
      cases hl : lk S.2.2 (readS w).2.1 with
      | some z =>
        rw [wordK_done _ hc hl] at h
        obtain ⟨h1, rfl⟩ := Prod.mk.inj h
        obtain ⟨rfl, _⟩ := Prod.mk.inj h1
        obtain ⟨N, hN1, hN2, hN3, hN4, hN5⟩ := hi.ex
        exact ⟨hi, subK_refl _, ⟨h0, fun _ => ⟨z, hl⟩⟩, (phiK_some hp hl).symm, fun _ => (hN5 _ _ hl).1, fun a y h1 h2 => by rw [h2] at h1; cases h1⟩
      | none =>
        by_cases he : ((atS g (readS w).2.1).2 != 0) = true
        · rw [wordK_none hc hl he] at h
          have := (Prod.mk.inj (Prod.mk.inj h).1).2
          rw [this] at he
          exact absurd he (by simp)
        · have he0 : (atS g (readS w).2.1).2 = 0 := by simpa using he
          generalize hA : atS g (readS w).2.1 = A at he0
          obtain ⟨o, e⟩ := A
          simp only at he0
          subst he0
          rw [wordK_obj hc hl hA] at h
          have hA' : atS g (placeS w).1 = (o, 0) := hA
          generalize hPQ : partsK (wordK g n) S o.parts [] = PQ at h
          obtain ⟨⟨acc, e⟩, S1⟩ := PQ
          by_cases hne : (e != 0) = true
          · rw [objK_err hne] at h
            have := (Prod.mk.inj (Prod.mk.inj h).1).2
            rw [this] at hne
            exact absurd hne (by simp)
          · have hee : e = 0 := by simpa using hne
            subst hee
            rw [objK_ok] at h
            simp only at h
            obtain ⟨b1, b2, b3, b4, b5⟩ := parts_inv o.parts [] S S1 acc (fun p _ S x S' hi h => ih S p x S' hi h) hi hPQ
            obtain ⟨m, m1, m2, m3, m4, m5⟩ := obj_of hg4 hgo hA'
            have hgood : GoodK g (placeS w).1 := .mk hA' fun p hpm hpi => (b4 p hpm).2 hpi
            have hl1 : lk S1.2.2 (placeS w).1 = none := by
              cases hx : lk S1.2.2 (placeS w).1 with
              | none => rfl
              | some z =>
                obtain ⟨p, hpm, hr⟩ := b5 _ z hx hl
                exact absurd (reach_behind hr hA' hpm) (good_behind hgood)
            rw [b3, List.nil_append] at h
            obtain ⟨c1, c2⟩ := put_inv b1 hA' (by rw [m2, m1]) m3 hgood (fun p hpm => (b4 p hpm).1) hl1 h
            have hsub : SubK S1.2.2 S'.2.2 := fun a t ha => by rw [c2, lk_end, ha]
            have hlw : lk S'.2.2 (placeS w).1 = some x := by rw [c2, lk_end, hl1]; exact if_pos rfl
            refine ⟨c1, b2.trans hsub, ⟨h0, fun _ => ⟨x, hlw⟩⟩, (phiK_some hp hlw).symm, fun _ => hgood, fun a y h1 h2 => ?_⟩
            rw [c2, lk_end] at h1
            cases hx : lk S1.2.2 a with
            | some z =>
              obtain ⟨p, hpm, hr⟩ := b5 a z hx h2
              exact .part hp hA' hpm hr
            | none =>
              rw [hx] at h1
              dsimp only at h1
              split at h1
              · rename_i hab
                rw [← hab]
                exact .here hp
              · cases h1

theorem start_inv {g : List Int} {L : List Obj} (hL : Placed L) (h4 : (flat L).length ≤ 4000) : InvK g L (g, flat L, []) :=
  ⟨⟨[], by simpa using hL, by simp, by simpa using h4, rfl, fun a x h => by cases h⟩, fun a b x h => (by cases h), by simp⟩
end Go.Proofs.Ytagphggcdmjlpaa.P

/- What Alike finds, in plain words: it goes through all that was copied, each once. -/
namespace Go.Proofs.Ytagphggcdmjlpaa.P
open Go.Ab Go.Proofs.Ytagphggcdmjlpaa.T

theorem nodup_len : ∀ {A B : List Int}, A.Nodup → (∀ x, x ∈ A → x ∈ B) → A.length ≤ B.length
  | [], _, _, _ => Nat.zero_le _
  | a :: A, B, h, hs => by
    obtain ⟨h1, h2⟩ := List.nodup_cons.1 h
    have ha := hs a List.mem_cons_self
    have := nodup_len (A := A) (B := B.erase a) h2 fun x hx => (List.mem_erase_of_ne (fun e : x = a => h1 (by rw [← e]; exact hx))).2 (hs x (List.mem_cons_of_mem _ hx))
    rw [List.length_erase_of_mem ha] at this
    have hp := List.length_pos_of_mem ha
    simp only [List.length_cons]
    omega

theorem lk_mem : ∀ {m : List (Int × Int)} {a x : Int}, lk m a = some x → (a, x) ∈ m
  | (c, d) :: l, a, x, h => by
    have e2 : lk ((c, d) :: l) a = if c = a then some d else lk l a := rfl
    rw [e2] at h
    split at h
    · rename_i hc; cases h; subst hc; exact List.mem_cons_self
    · exact List.mem_cons_of_mem _ (lk_mem h)

theorem mem_lk : ∀ {m : List (Int × Int)} {a x : Int}, (m.map Prod.fst).Nodup → (a, x) ∈ m → lk m a = some x
  | (c, d) :: l, a, x, hn, h => by
    have e2 : lk ((c, d) :: l) a = if c = a then some d else lk l a := rfl
    rw [e2]
    obtain ⟨h1, h2⟩ := List.nodup_cons.1 hn
    rcases List.mem_cons.1 h with h | h
    · cases h; exact if_pos rfl
    · rw [if_neg (fun e => h1 (by
        show c ∈ l.map Prod.fst
        rw [e]
        exact List.mem_map.2 ⟨_, h, rfl⟩))]
      exact mem_lk h2 h

/-- A heap's part was copied to another. -/
structure ShrK (g b : List Int) (mv : List (Int × Int)) (w0 : Int) : Prop where
  g4 : g.length ≤ 4000
  go : ∀ w, w ∈ g → WordOk w
  b4 : b.length ≤ 4000
  ex : ∃ T, Placed T ∧ b = flat T ∧ ∀ a x, lk mv a = some x → ∃ (t : Nat) (q o : Obj), q ∈ T ∧ q.at_ = t ∧ t ≤ 4000 ∧ x = (wordS 4 t).1 ∧ atS g a = (o, 0) ∧ q.kind = o.kind ∧ q.num = o.num ∧ q.text = o.text ∧ q.parts = o.parts.map (phiK mv) ∧ ∀ p, p ∈ o.parts → KnownK mv p
  inj : ∀ a b x, lk mv a = some x → lk mv b = some x → a = b
  nd : (mv.map Prod.fst).Nodup
  kn : KnownK mv w0
  rch : ∀ a x, lk mv a = some x → ReachK g w0 a

/-- Where a word's object went. -/
theorem ShrK.to {g b : List Int} {mv : List (Int × Int)} {w0 : Int} (h : ShrK g b mv w0) {a x : Int} (hl : lk mv a = some x) : ∃ (t : Nat) (q o : Obj), t ≤ 4000 ∧ x = (wordS 4 t).1 ∧ atS g a = (o, 0) ∧ atS b t = (q, 0) ∧
    q.kind = o.kind ∧ q.num = o.num ∧ q.text = o.text ∧ q.parts = o.parts.map (phiK mv) ∧ ∀ p, p ∈ o.parts → KnownK mv p := by
  obtain ⟨T, h1, h2, h3⟩ := h.ex
  obtain ⟨t, q, o, q1, q2, q3, q4, q5, q6, q7, q8, q9, q10⟩ := h3 a x hl
  refine ⟨t, q, o, q3, q4, q5, ?_, q6, q7, q8, q9, q10⟩
  rw [h2, ← q2]
  exact at_placed h1 q1

/-- What Alike has, at each round's head. -/
structure AlInv (g : List Int) (mv : List (Int × Int)) (w0 : Int) (L : List Int) (M : List (Int × Int)) : Prop where
  nd : (M.map Prod.fst).Nodup
  nd2 : (M.map Prod.snd).Nodup
  sub : ∀ a t, (a, t) ∈ M → ∃ x, lk mv a = some x ∧ (placeS x).1 = t
  kn : ∀ w, w ∈ L → KnownK mv w
  cl : ∀ a t o, (a, t) ∈ M → atS g a = (o, 0) → ∀ p, p ∈ o.parts → (placeS p).2.1 = true → (placeS p).1 ∈ M.map Prod.fst ∨ p ∈ L
  rt : (placeS w0).2.1 = true → (placeS w0).1 ∈ M.map Prod.fst ∨ w0 ∈ L

theorem AlInv.start {g b : List Int} {mv : List (Int × Int)} {w0 : Int} (h : ShrK g b mv w0) : AlInv g mv w0 [w0] [] :=
  ⟨by simp, by simp, fun a t h => (by cases h), fun w hw => by rcases List.mem_singleton.1 hw with rfl; exact h.kn, fun a t o h => (by cases h), fun _ => .inr (List.mem_singleton.2 rfl)⟩

theorem AlInv.keys {g : List Int} {mv : List (Int × Int)} {w0 : Int} {L : List Int} {M : List (Int × Int)} (hi : AlInv g mv w0 L M) : ∀ x, x ∈ M.map Prod.fst → x ∈ mv.map Prod.fst := fun x hx => by
  obtain ⟨⟨a, t⟩, hm, rfl⟩ := List.mem_map.1 hx
  obtain ⟨y, hy, _⟩ := hi.sub a t hm
  exact List.mem_map.2 ⟨_, lk_mem hy, rfl⟩

/-- A word that names no place, or one that was met. -/
theorem AlInv.skip {g : List Int} {mv : List (Int × Int)} {w0 w : Int} {L : List Int} {M : List (Int × Int)} (hi : AlInv g mv w0 (w :: L) M) (hw : (placeS w).2.1 = true → (placeS w).1 ∈ M.map Prod.fst) : AlInv g mv w0 L M where
  nd := hi.nd
  nd2 := hi.nd2
  sub := hi.sub
  kn := fun x hx => hi.kn x (List.mem_cons_of_mem _ hx)
  cl := fun a t o h1 h2 p hp hpi => by
    rcases hi.cl a t o h1 h2 p hp hpi with h | h
    · exact .inl h
    · rcases List.mem_cons.1 h with rfl | h
      · exact .inl (hw hpi)
      · exact .inr h
  rt := fun h0 => by
    rcases hi.rt h0 with h | h
    · exact .inl h
    · rcases List.mem_cons.1 h with rfl | h
      · exact .inl (hw h0)
      · exact .inr h

theorem place_inj {t u : Nat} (ht : t ≤ 4000) (hu : u ≤ 4000) (h : (placeS (wordS 4 (t : Int)).1).1 = (placeS (wordS 4 (u : Int)).1).1) : t = u := by
  rw [place_word ht, place_word hu] at h
  simp only at h
  omega

/-- A new place. -/
theorem AlInv.new {g b : List Int} {mv : List (Int × Int)} {w0 w x : Int} {L : List Int} {M : List (Int × Int)} {o : Obj} (hs : ShrK g b mv w0) (hi : AlInv g mv w0 (w :: L) M) (hw : (placeS w).2.1 = true) (hl : lk mv (placeS w).1 = some x)
    (ho : atS g (placeS w).1 = (o, 0)) (hn : (placeS w).1 ∉ M.map Prod.fst) : AlInv g mv w0 (L ++ o.parts) (M ++ [((placeS w).1, (placeS x).1)]) ∧ (placeS x).1 ∉ M.map Prod.snd ∧ M.length + 1 ≤ mv.length := by
  have hx2 : (placeS x).1 ∉ M.map Prod.snd := fun hm => by
    obtain ⟨⟨a, t⟩, hm, e⟩ := List.mem_map.1 hm
    simp only at e
    obtain ⟨y, hy, e2⟩ := hi.sub a t hm
    obtain ⟨t1, _, _, u1, u2, _⟩ := hs.to hl
    obtain ⟨t2, _, _, v1, v2, _⟩ := hs.to hy
    rw [e, u2] at e2
    rw [v2] at e2
    have := place_inj v1 u1 e2
    subst this
    rw [← u2] at v2
    rw [v2] at hy
    have := hs.inj _ _ _ hy hl
    rw [this] at hm
    exact hn (List.mem_map.2 ⟨_, hm, rfl⟩)
  have hi2 : AlInv g mv w0 (L ++ o.parts) (M ++ [((placeS w).1, (placeS x).1)]) := by
    refine ⟨?_, ?_, fun a t hm => ?_, fun z hz => ?_, fun a t o' hm ho' p hp hpi => ?_, fun h0 => ?_⟩
    · rw [List.map_append, List.nodup_append]
      refine ⟨hi.nd, by simp, fun c hc d hd => ?_⟩
      simp at hd
      subst hd
      intro e
      subst e
      exact hn hc
    · rw [List.map_append, List.nodup_append]
      refine ⟨hi.nd2, by simp, fun c hc d hd => ?_⟩
      simp at hd
      subst hd
      intro e
      subst e
      exact hx2 hc
    · rcases List.mem_append.1 hm with hm | hm
      · exact hi.sub a t hm
      · rcases List.mem_singleton.1 hm with h
        cases h
        exact ⟨x, hl, rfl⟩
    · rcases List.mem_append.1 hz with hz | hz
      · exact hi.kn z (List.mem_cons_of_mem _ hz)
      · obtain ⟨_, _, o2, _, _, e, _, _, _, _, _, hk⟩ := hs.to hl
        rw [ho] at e
        cases (Prod.mk.inj e).1
        exact hk z hz
    · rcases List.mem_append.1 hm with hm | hm
      · rcases hi.cl a t o' hm ho' p hp hpi with h | h
        · exact .inl (by rw [List.map_append]; exact List.mem_append_left _ h)
        · rcases List.mem_cons.1 h with rfl | h
          · exact .inl (by rw [List.map_append]; exact List.mem_append_right _ (by simp))
          · exact .inr (List.mem_append_left _ h)
      · rcases List.mem_singleton.1 hm with h
        cases h
        rw [ho] at ho'
        cases (Prod.mk.inj ho').1
        exact .inr (List.mem_append_right _ hp)
    · rcases hi.rt h0 with h | h
      · exact .inl (by rw [List.map_append]; exact List.mem_append_left _ h)
      · rcases List.mem_cons.1 h with rfl | h
        · exact .inl (by rw [List.map_append]; exact List.mem_append_right _ (by simp))
        · exact .inr (List.mem_append_left _ h)
  refine ⟨hi2, hx2, ?_⟩
  have := nodup_len hi2.nd hi2.keys
  simpa using this

/-- All was met. -/
theorem AlInv.all {g b : List Int} {mv : List (Int × Int)} {w0 : Int} {M : List (Int × Int)} (hs : ShrK g b mv w0) (hi : AlInv g mv w0 [] M) : M.length = mv.length := by
  have key : ∀ w a, ReachK g w a → (placeS w).1 ∈ M.map Prod.fst → a ∈ M.map Prod.fst := by
    intro w a hr
    induction hr with
    | here _ => exact id
    | @part w p c o hw ho hp hr ih =>
      intro hm
      obtain ⟨⟨a', t⟩, hm, e⟩ := List.mem_map.1 hm
      simp only at e
      subst e
      refine ih ?_
      have hpi : (placeS p).2.1 = true := by cases hr <;> assumption
      rcases hi.cl _ t o hm ho p hp hpi with h | h
      · exact h
      · cases h
  have hsub : ∀ x, x ∈ mv.map Prod.fst → x ∈ M.map Prod.fst := fun x hx => by
    obtain ⟨y, hy⟩ := lk_key hx
    have hr := hs.rch x y hy
    refine key w0 x hr ?_
    have h0 : (placeS w0).2.1 = true := by cases hr <;> assumption
    rcases hi.rt h0 with h | h
    · exact h
    · cases h
  have h1 := nodup_len hi.nd hi.keys
  have h2 := nodup_len hs.nd hsub
  simp only [List.length_map] at h1 h2
  omega

theorem lk_some {M : List (Int × Int)} {a : Int} (h : a ∈ M.map Prod.fst) : ∃ t, lk M a = some t ∧ (a, t) ∈ M := by
  obtain ⟨t, ht⟩ := lk_key h
  exact ⟨t, ht, lk_mem ht⟩

theorem lk_not : ∀ {M : List (Int × Int)} {a : Int}, a ∉ M.map Prod.fst → lk M a = none
  | [], _, _ => rfl
  | (c, d) :: l, a, h => by
    have e2 : lk ((c, d) :: l) a = if c = a then some d else lk l a := rfl
    rw [List.map_cons, List.mem_cons, not_or] at h
    rw [e2, if_neg (fun e => h.1 e.symm)]
    exact lk_not h.2

/-- The map the other way. -/
def backM (M : List (Int × Int)) : List (Int × Int) := M.map fun e => (e.2, e.1)
theorem backM_fst (M : List (Int × Int)) : (backM M).map Prod.fst = M.map Prod.snd := by
  unfold backM; rw [List.map_map]; rfl
theorem back_old {M : List (Int × Int)} {a t : Int} (hn : (M.map Prod.snd).Nodup) (h : (a, t) ∈ M) : lk (backM M) t = some a :=
  mem_lk (by rw [backM_fst]; exact hn) (List.mem_map.2 ⟨(a, t), h, rfl⟩)
theorem back_new {M : List (Int × Int)} {t : Int} (h : t ∉ M.map Prod.snd) : lk (backM M) t = none := lk_not (by rw [backM_fst]; exact h)

/-- What a round of Alike comes to, told by the word at the queue's head. -/
theorem AlInv.round {g b : List Int} {mv : List (Int × Int)} {w0 w : Int} {L : List Int} {M : List (Int × Int)} (hs : ShrK g b mv w0) (hi : AlInv g mv w0 (w :: L) M) :
    ((placeS w).2.1 = false ∧ (placeS w).2.2 = 0 ∧ phiK mv w = w ∧ AlInv g mv w0 L M) ∨
    (∃ t : Nat, t ≤ 4000 ∧ (placeS w).2.1 = true ∧ (placeS w).2.2 = 0 ∧ phiK mv w = (wordS 4 t).1 ∧ lk M (placeS w).1 = some (t : Int) ∧ lk (backM M) t = some (placeS w).1 ∧ AlInv g mv w0 L M) ∨
    ∃ (t : Nat) (o q : Obj), t ≤ 4000 ∧ (placeS w).2.1 = true ∧ (placeS w).2.2 = 0 ∧ phiK mv w = (wordS 4 t).1 ∧ lk M (placeS w).1 = none ∧ lk (backM M) t = none ∧ atS g (placeS w).1 = (o, 0) ∧ atS b t = (q, 0) ∧ q.kind = o.kind ∧ q.num = o.num ∧ q.text = o.text ∧ q.parts = o.parts.map (phiK mv) ∧
      M.length + 1 ≤ mv.length ∧ AlInv g mv w0 (L ++ o.parts) (M ++ [((placeS w).1, (t : Int))]) := by
  obtain ⟨hk0, hk1⟩ := hi.kn w List.mem_cons_self
  cases hw : (placeS w).2.1 with
  | false => exact .inl ⟨rfl, hk0, phiK_not hw, hi.skip fun h => by rw [hw] at h; cases h⟩
  | true =>
    obtain ⟨x, hx⟩ := hk1 hw
    obtain ⟨t, q, o, t1, t2, t3, t4, t5, t6, t7, t8, t9⟩ := hs.to hx
    have hph : phiK mv w = (wordS 4 t).1 := by rw [phiK_some hw hx, t2]
    have hpx : (placeS x).1 = (t : Int) := by rw [t2, place_word t1]
    by_cases hm : (placeS w).1 ∈ M.map Prod.fst
    · obtain ⟨u, hu, hum⟩ := lk_some hm
      obtain ⟨y, hy, e⟩ := hi.sub _ _ hum
      rw [hx] at hy
      cases hy
      rw [hpx] at e
      subst e
      exact .inr (.inl ⟨t, t1, rfl, hk0, hph, hu, back_old hi.nd2 hum, hi.skip fun _ => hm⟩)
    · obtain ⟨h1, h2, h3⟩ := hi.new hs hw hx t3 hm
      rw [hpx] at h1 h2
      exact .inr (.inr ⟨t, o, q, t1, rfl, hk0, hph, lk_not hm, back_new h2, t3, t4, t5, t6, t7, t8, h3, h1⟩)
end Go.Proofs.Ytagphggcdmjlpaa.P

/- What is reached from a word: the worklist's invariant, in plain words. -/
namespace Go.Proofs.Ytagphggcdmjlpaa.P
open Go.Ab Go.Proofs.Ytagphggcdmjlpaa.T

def Done (S : List Int) (p : Int) : Prop := (placeS p).2.2 = 0 ∧ ((placeS p).2.1 = true → (placeS p).1 ∈ S)

theorem Done.mono {S S' : List Int} {p : Int} (h : Done S p) (hs : ∀ a, a ∈ S → a ∈ S') : Done S' p := ⟨h.1, fun hi => hs _ (h.2 hi)⟩

/-- A worklist L, and what was met, S. -/
structure RInv (g : List Int) (w0 : Int) (L S : List Int) : Prop where
  nd : S.Nodup
  ok : ∀ a, a ∈ S → (atS g a).2 = 0
  rch : ∀ a, a ∈ S → ReachK g w0 a
  rL : ∀ w, w ∈ L → (w = w0 ∨ w ∈ g) ∧ (∀ a, ReachK g w a → ReachK g w0 a) ∧ (w = w0 ∨ ∃ a, ReachK g w0 a ∧ w ∈ (atS g a).1.parts)
  cl : ∀ a, a ∈ S → ∀ p, p ∈ (atS g a).1.parts → p ∈ L ∨ Done S p
  rt : w0 ∈ L ∨ Done S w0
  src : ∀ a, a ∈ S → ∃ w, (w = w0 ∨ w ∈ g) ∧ (placeS w).1 = a

theorem RInv.start (g : List Int) (w0 : Int) : RInv g w0 [w0] [] :=
  ⟨by simp, fun a h => (by cases h), fun a h => (by cases h), fun w h => (by rcases List.mem_singleton.1 h with rfl; exact ⟨.inl rfl, fun _ h => h, .inl rfl⟩), fun a h => (by cases h), .inl (by simp), fun a h => (by cases h)⟩

theorem RInv.mem {g : List Int} {w0 : Int} {L L' S : List Int} (h : RInv g w0 L S) (hl : ∀ w, w ∈ L' ↔ w ∈ L) : RInv g w0 L' S :=
  ⟨h.nd, h.ok, h.rch, fun w hw => h.rL w ((hl w).1 hw), fun a ha p hp => (h.cl a ha p hp).imp (hl p).2 id, h.rt.imp (hl w0).2 id, h.src⟩

theorem RInv.skip {g : List Int} {w0 w : Int} {L S : List Int} (h : RInv g w0 (w :: L) S) (hd : Done S w) : RInv g w0 L S := by
  refine ⟨h.nd, h.ok, h.rch, fun x hx => h.rL x (List.mem_cons_of_mem _ hx), fun a ha p hp => ?_, ?_, h.src⟩
  · rcases h.cl a ha p hp with h1 | h1
    · rcases List.mem_cons.1 h1 with rfl | h1
      · exact .inr hd
      · exact .inl h1
    · exact .inr h1
  · rcases h.rt with h1 | h1
    · rcases List.mem_cons.1 h1 with rfl | h1
      · exact .inr hd
      · exact .inl h1
    · exact .inr h1

theorem parts_mem {g : List Int} {a : Int} {o : Obj} (hg4 : g.length ≤ 4000) (hgo : ∀ w, w ∈ g → WordOk w) (ho : atS g a = (o, 0)) : (∀ p, p ∈ o.parts → p ∈ g) ∧ o.parts.length ≤ 4000 := by
  obtain ⟨n, e1, e2, e3, e4, e5⟩ := obj_of hg4 hgo ho
  have hin : ∀ w, w ∈ o.parts → w ∈ encW o := fun w hw => by unfold encW; simp [hw]
  refine ⟨fun p hp => ?_, ?_⟩
  · have := hin p hp
    rw [e5] at this
    exact List.mem_of_mem_drop (List.mem_of_mem_take this)
  · have h : o.parts.length ≤ (encW o).length := by unfold encW; simp only [List.length_cons, List.length_append]; omega
    omega

theorem RInv.new {g : List Int} {w0 w : Int} {L S : List Int} {o : Obj} (hg4 : g.length ≤ 4000) (hgo : ∀ w, w ∈ g → WordOk w) (h : RInv g w0 (w :: L) S) (h0 : (placeS w).2.2 = 0) (hw : (placeS w).2.1 = true) (hn : (placeS w).1 ∉ S) (ho : atS g (placeS w).1 = (o, 0)) :
    RInv g w0 (L ++ o.parts) (S ++ [(placeS w).1]) := by
  have hsub : ∀ a, a ∈ S → a ∈ S ++ [(placeS w).1] := fun a ha => List.mem_append_left _ ha
  have hdw : Done (S ++ [(placeS w).1]) w := ⟨h0, fun _ => List.mem_append_right _ (List.mem_singleton.2 rfl)⟩
  have hrw := (h.rL w List.mem_cons_self).2.1
  have cases2 : ∀ {a : Int}, a ∈ S ++ [(placeS w).1] → a ∈ S ∨ a = (placeS w).1 := fun ha => by
    rcases List.mem_append.1 ha with ha | ha
    · exact .inl ha
    · exact .inr (List.mem_singleton.1 ha)
  refine ⟨?_, fun a ha => ?_, fun a ha => ?_, fun x hx => ?_, fun a ha p hp => ?_, ?_, fun a ha => ?_⟩
  · rw [List.nodup_append]
    refine ⟨h.nd, by simp, fun c hc d hd => ?_⟩
    rcases List.mem_singleton.1 hd with rfl
    exact fun e => hn (e ▸ hc)
  · rcases cases2 ha with ha | rfl
    · exact h.ok a ha
    · rw [ho]
  · rcases cases2 ha with ha | rfl
    · exact h.rch a ha
    · exact hrw _ (.here hw)
  · rcases List.mem_append.1 hx with hx | hx
    · exact h.rL x (List.mem_cons_of_mem _ hx)
    · exact ⟨.inr ((parts_mem hg4 hgo ho).1 x hx), fun a ha => hrw a (.part hw ho hx ha), .inr ⟨(placeS w).1, hrw _ (.here hw), by rw [ho]; exact hx⟩⟩
  · rcases cases2 ha with ha | rfl
    · rcases h.cl a ha p hp with h1 | h1
      · rcases List.mem_cons.1 h1 with rfl | h1
        · exact .inr hdw
        · exact .inl (List.mem_append_left _ h1)
      · exact .inr (h1.mono hsub)
    · rw [ho] at hp
      exact .inl (List.mem_append_right _ hp)
  · rcases h.rt with h1 | h1
    · rcases List.mem_cons.1 h1 with h1 | h1
      · rw [h1]; exact .inr hdw
      · exact .inl (List.mem_append_left _ h1)
    · exact .inr (h1.mono hsub)
  · rcases cases2 ha with ha | rfl
    · exact h.src a ha
    · exact ⟨w, (h.rL w List.mem_cons_self).1, rfl⟩

theorem RInv.bound {g : List Int} {w0 : Int} {L S : List Int} (h : RInv g w0 L S) : S.length ≤ g.length + 1 := by
  have := nodup_len (A := S) (B := (w0 :: g).map fun w => (placeS w).1) h.nd fun a ha => by
    obtain ⟨w, hw, e⟩ := h.src a ha
    exact List.mem_map.2 ⟨w, List.mem_cons.2 hw, e⟩
  simpa using this

theorem RInv.all {g : List Int} {w0 : Int} {S : List Int} (h : RInv g w0 [] S) : (∀ a, a ∈ S ↔ ReachK g w0 a) ∧ Done S w0 ∧ ∀ a, a ∈ S → ∀ p, p ∈ (atS g a).1.parts → Done S p := by
  have hrt : Done S w0 := by rcases h.rt with h1 | h1; · cases h1
                             · exact h1
  have hcl : ∀ a, a ∈ S → ∀ p, p ∈ (atS g a).1.parts → Done S p := fun a ha p hp => by
    rcases h.cl a ha p hp with h1 | h1
    · cases h1
    · exact h1
  refine ⟨fun a => ⟨h.rch a, fun hr => ?_⟩, hrt, hcl⟩
  have key : ∀ w a, ReachK g w a → Done S w → a ∈ S := by
    intro w a hr
    induction hr with
    | here hi => exact fun hd => hd.2 hi
    | @part w p c o hw ho hp hr ih =>
      intro hd
      refine ih (hcl (placeS w).1 (hd.2 hw) p ?_)
      rw [ho]; exact hp
  exact key w0 a hr hrt

/-- What Cells tells: all cells that are reached, each once. -/
def CellsOk (g : List Int) (w0 : Int) (l : List Int) : Prop := l.Nodup ∧ (∀ a, a ∈ l ↔ (ReachK g w0 a ∧ (atS g a).1.kind = 5)) ∧ ∀ a, ReachK g w0 a → (atS g a).2 = 0

/-- What keeps Cells from telling: a word that is none, or a place where there is no object. -/
def CellBad (g : List Int) (w0 : Int) : Prop := (placeS w0).2.2 ≠ 0 ∨ ∃ a, ReachK g w0 a ∧ ((atS g a).2 ≠ 0 ∨ ∃ p, p ∈ (atS g a).1.parts ∧ (placeS p).2.2 ≠ 0)

theorem RInv.bad1 {g : List Int} {w0 w : Int} {L S : List Int} (h : RInv g w0 (w :: L) S) (he : (placeS w).2.2 ≠ 0) : CellBad g w0 := by
  rcases (h.rL w List.mem_cons_self).2.2 with rfl | ⟨a, h1, h2⟩
  · exact .inl he
  · exact .inr ⟨a, h1, .inr ⟨w, h2, he⟩⟩

theorem RInv.bad2 {g : List Int} {w0 w : Int} {L S : List Int} (h : RInv g w0 (w :: L) S) (hw : (placeS w).2.1 = true) (he : (atS g (placeS w).1).2 ≠ 0) : CellBad g w0 :=
  .inr ⟨_, (h.rL w List.mem_cons_self).2.1 _ (.here hw), .inl he⟩

def cellsOf (g : List Int) (S : List Int) : List Int := S.filter fun a => (atS g a).1.kind == 5

theorem cellsOf_end (g : List Int) (S : List Int) (a : Int) : cellsOf g (S ++ [a]) = if (atS g a).1.kind == 5 then cellsOf g S ++ [a] else cellsOf g S := by
  unfold cellsOf
  rw [List.filter_append]
  cases hc : ((atS g a).1.kind == 5) <;> simp [List.filter, hc]

theorem cells_ok {g : List Int} {w0 : Int} {S l : List Int} (h : RInv g w0 [] S) (hp : l.Perm (cellsOf g S)) : CellsOk g w0 l := by
  obtain ⟨h1, _, _⟩ := h.all
  refine ⟨hp.nodup_iff.2 (h.nd.filter _), fun a => ?_, fun a ha => h.ok a ((h1 a).2 ha)⟩
  rw [hp.mem_iff]
  unfold cellsOf
  rw [List.mem_filter, h1, beq_iff_eq]

/-- A set of ints, as a map. -/
def embS (S : List Int) : List (Value × PV) := S.map fun a => (.int .i64 a, .lit (.bool true))
theorem embS_keys (S : List Int) : intKeys .i64 (embS S) := fun e he => by
  obtain ⟨x, _, rfl⟩ := List.mem_map.1 he
  exact ⟨x, rfl⟩
theorem mget_embS : ∀ (S : List Int) (n : Int), mget (embS S) n = if n ∈ S then some (.lit (.bool true)) else none
  | [], _ => rfl
  | a :: l, n => by
    show (if a = n then some (PV.lit (.bool true)) else mget (embS l) n) = _
    rw [mget_embS l n]
    by_cases h : a = n
    · subst h; simp
    · have h' : ¬ n = a := fun e => h e.symm
      simp [h, h']
theorem mset_embS : ∀ {S : List Int} {n : Int}, n ∉ S → mset .i64 n (.lit (.bool true)) (embS S) = embS (S ++ [n])
  | [], _, _ => rfl
  | a :: l, n, h => by
    rw [List.mem_cons, not_or] at h
    show (if a = n then _ else (Value.int .i64 a, PV.lit (.bool true)) :: mset .i64 n (.lit (.bool true)) (embS l)) = _
    rw [if_neg (fun e => h.1 e.symm), mset_embS h.2]
    rfl
end Go.Proofs.Ytagphggcdmjlpaa.P

/- Words, as the reference reads them (TagFits, TagWord, TagRead): contracts. -/
namespace Go.Proofs.Ytagphggcdmjlpaa.P
open Go.Ab Go.Proofs.Ytagphggcdmjlpaa.T


theorem inR (a b c : Int) : ACallP Try.prog 86 [iD a, iD b, iD c] (bD (decide (a ≥ b) && decide (a ≤ c))) := by
  obtain ⟨A, hA⟩ : ∃ A, decide (a ≥ b) = A := ⟨_, rfl⟩
  obtain ⟨B, hB⟩ : ∃ B, decide (a ≤ c) = B := ⟨_, rfl⟩
  rw [hA, hB]
  refine acallp_fn [6] Try.func86 rfl rfl Try.ntmps86 (by simp) fun R hR => ?_
  (refine awp_reg_seq [0, 1, 2] fun K hK => ?_; (repeat' ((refine al_r rfl fun K' hK' => ?_); (repeat (simp only [go_sem, simprocAttr])); ((refine hK' _ _ ?_) <;> clear hK' K'))); all_goals (refine al_nil ?_; (simp only [go_sem, simprocAttr]); refine hK _ ?_; clear hK K))

  refine awp_reg_tov [6] [(6, bD (A && B))] (h := ?_) (k := ?_)
  · cases A
    all_goals ((repeat' (first | ((first | refine al_r rfl fun K' hK' => ?_ | refine al_t rfl rfl fun K' hK' => ?_); (repeat (simp only [go_sem, simprocAttr, hA, hB])); ((refine hK' _ _ ?_) <;> clear hK' K')) | refine al_e rfl rfl ?_)); all_goals (refine al_nil ?_; (simp only [go_sem, simprocAttr, hA, hB, *, Bool.and_true, Bool.and_false, Bool.true_and, Bool.false_and, Bool.or_true, Bool.true_or, Bool.or_false, Bool.false_or, Bool.not_true, Bool.not_false, Bool.false_eq_true]; done)))
  (intro K hK; (simp only [go_sem, simprocAttr, hA, hB]); refine hK _ ?_; clear hK K)
  all_goals (refine awp_ret ?_; (refine hR _ _ (.inl rfl) rfl ?_); (simp only [go_sem, simprocAttr, hA, hB, *, Bool.and_true, Bool.and_false, Bool.true_and, Bool.false_and, Bool.or_true, Bool.true_or, Bool.or_false, Bool.false_or, Bool.not_true, Bool.not_false, Bool.false_eq_true]; done))


theorem tagWord (t n : Int) : ACallP Try.prog 85 [iD t, iD n] (wD (IntKind.u64.wrap (IntKind.u64.wrap (8 * IntKind.u64.wrap n) + IntKind.u64.wrap t))) := by
  refine acallp_fn [4] Try.func85 rfl rfl Try.ntmps85 (by simp) fun R hR => ?_
  (refine awp_reg_seq [0, 1] fun K hK => ?_; (repeat' ((refine al_r rfl fun K' hK' => ?_); (repeat (simp only [go_sem, simprocAttr])); ((refine hK' _ _ ?_) <;> clear hK' K'))); all_goals (refine al_nil ?_; (simp only [go_sem, simprocAttr]); refine hK _ ?_; clear hK K))
  (refine awp_reg_seq [4] fun K hK => ?_; (repeat' ((refine al_r rfl fun K' hK' => ?_); (repeat (simp only [go_sem, simprocAttr])); ((refine hK' _ _ ?_) <;> clear hK' K'))); all_goals (refine al_nil ?_; (simp only [go_sem, simprocAttr]); refine hK _ ?_; clear hK K))
  all_goals (refine awp_ret ?_; (refine hR _ _ (.inl rfl) rfl ?_); (simp only [go_sem, simprocAttr, *, Bool.and_true, Bool.and_false, Bool.true_and, Bool.false_and, Bool.or_true, Bool.true_or, Bool.or_false, Bool.false_or, Bool.not_true, Bool.not_false, Bool.false_eq_true]; done))

/-- Does a number fit a tag, as the reference says it. -/
def fitF (t n l m : Int) : Bool := (decide (t ≥ 0) && decide (t ≤ 4)) && (decide (n ≥ l) && decide (n ≤ m))
def fitsR (t n : Int) : Bool :=
  if t == 0 then fitF t n 0 0 else if t == 1 then fitF t n (-1152921504606846976) 1152921504606846975 else if t == 2 then fitF t n 0 1 else fitF t n 0 1152921504606846975


theorem tagFits (t n : Int) : ACallP Try.prog 84 [iD t, iD n] (bD (fitsR t n)) := by
  obtain ⟨V, hV⟩ : ∃ V, V = fitsR t n := ⟨_, rfl⟩
  rw [← hV]
  unfold fitsR fitF at hV
  have hi1 := inR t 0 4
  generalize (decide (t ≥ 0) && decide (t ≤ 4)) = A at hi1 hV
  refine acallp_fn [4] Try.func84 rfl rfl Try.ntmps84 (by simp) fun R hR => ?_
  (refine awp_reg_seq [0, 1] fun K hK => ?_; (repeat' ((refine al_r rfl fun K' hK' => ?_); (repeat (simp only [go_sem, simprocAttr])); ((refine hK' _ _ ?_) <;> clear hK' K'))); all_goals (refine al_nil ?_; (simp only [go_sem, simprocAttr]); refine hK _ ?_; clear hK K))
  (refine awp_reg_seq [0, 1, 5, 6] fun K hK => ?_; (repeat' ((refine al_r rfl fun K' hK' => ?_); (repeat (simp only [go_sem, simprocAttr])); ((refine hK' _ _ ?_) <;> clear hK' K'))); all_goals (refine al_nil ?_; (simp only [go_sem, simprocAttr]); refine hK _ ?_; clear hK K))
  refine awp_seq_k fun K hK => ?_
  (refine awp_reg_seq [0, 1, 5, 6, 7] fun K hK => ?_; (repeat' ((refine al_r rfl fun K' hK' => ?_); (repeat (simp only [go_sem, simprocAttr])); ((refine hK' _ _ ?_) <;> clear hK' K'))); all_goals (refine al_nil ?_; (simp only [go_sem, simprocAttr]); refine hK _ ?_; clear hK K))
  refine awp_block ?_
  (refine awp_reg_seq [0, 1, 5, 6, 7, 8] fun K hK => ?_; (repeat' ((refine al_r rfl fun K' hK' => ?_); (repeat (simp only [go_sem, simprocAttr])); ((refine hK' _ _ ?_) <;> clear hK' K'))); all_goals (refine al_nil ?_; (simp only [go_sem, simprocAttr]); refine hK _ ?_; clear hK K))
  refine awp_if (t == 0) rfl (fun hc => ?_) (fun hc => ?_)
  · rw [if_pos hc] at hV
    (refine awp_reg_end [0, 1, 5, 6] fun K hK => ?_; (repeat' ((refine al_r rfl fun K' hK' => ?_); (repeat (simp only [go_sem, simprocAttr])); ((refine hK' _ _ ?_) <;> clear hK' K'))); all_goals (refine al_nil ?_; (simp only [go_sem, simprocAttr]); refine hK _ ?_; clear hK K))
    refine hK _ ?_; clear hK K
    refine awp_reg_tov [4] [(4, bD V)] (h := ?_) (k := ?_)
    · cases A
      all_goals ((repeat' (first | ((first | refine al_r rfl fun K' hK' => ?_ | refine al_t rfl rfl fun K' hK' => ?_); (repeat (simp only [go_sem, simprocAttr])); (first | ((refine hK' _ _ ?_) <;> clear hK' K') | ((show AC _ _ (D.fn 86 _) _ _); refine acall_p (f := 86) (e := rfl) (hr := rfl) (k := hK' _ _ ?_) (hc := Try.call86) (h := hi1); clear hK' K') | ((show AC _ _ (D.fn 86 _) _ _); refine acall_p (f := 86) (e := rfl) (hr := rfl) (k := hK' _ _ ?_) (hc := Try.call86) (h := (inR _ _ _)); clear hK' K'))) | refine al_e rfl rfl ?_)); all_goals (refine al_nil ?_; (simp only [go_sem, simprocAttr, *, Bool.and_true, Bool.and_false, Bool.true_and, Bool.false_and, Bool.or_true, Bool.true_or, Bool.or_false, Bool.false_or, Bool.not_true, Bool.not_false, Bool.false_eq_true]; done)))
    (intro K hK; (simp only [go_sem, simprocAttr]); refine hK _ ?_; clear hK K)
    all_goals (refine awp_ret ?_; (refine hR _ _ (.inl rfl) rfl ?_); (simp only [go_sem, simprocAttr, *, Bool.and_true, Bool.and_false, Bool.true_and, Bool.false_and, Bool.or_true, Bool.true_or, Bool.or_false, Bool.false_or, Bool.not_true, Bool.not_false, Bool.false_eq_true]; done))
  · rw [if_neg (by rw [hc]; exact Bool.false_ne_true)] at hV
    (refine awp_reg_seq [0, 1, 5, 6, 7, 10] fun K hK => ?_; (repeat' ((refine al_r rfl fun K' hK' => ?_); (repeat (simp only [go_sem, simprocAttr])); ((refine hK' _ _ ?_) <;> clear hK' K'))); all_goals (refine al_nil ?_; (simp only [go_sem, simprocAttr]); refine hK _ ?_; clear hK K))
    refine awp_if (t == 1) rfl (fun hc => ?_) (fun hc => ?_)
    · rw [if_pos hc] at hV
      (refine awp_reg_end [0, 1, 5, 6] fun K hK => ?_; (repeat' ((refine al_r rfl fun K' hK' => ?_); (repeat (simp only [go_sem, simprocAttr])); ((refine hK' _ _ ?_) <;> clear hK' K'))); all_goals (refine al_nil ?_; (simp only [go_sem, simprocAttr]); refine hK _ ?_; clear hK K))
      refine hK _ ?_; clear hK K
      refine awp_reg_tov [4] [(4, bD V)] (h := ?_) (k := ?_)
      · cases A
        all_goals ((repeat' (first | ((first | refine al_r rfl fun K' hK' => ?_ | refine al_t rfl rfl fun K' hK' => ?_); (repeat (simp only [go_sem, simprocAttr])); (first | ((refine hK' _ _ ?_) <;> clear hK' K') | ((show AC _ _ (D.fn 86 _) _ _); refine acall_p (f := 86) (e := rfl) (hr := rfl) (k := hK' _ _ ?_) (hc := Try.call86) (h := hi1); clear hK' K') | ((show AC _ _ (D.fn 86 _) _ _); refine acall_p (f := 86) (e := rfl) (hr := rfl) (k := hK' _ _ ?_) (hc := Try.call86) (h := (inR _ _ _)); clear hK' K'))) | refine al_e rfl rfl ?_)); all_goals (refine al_nil ?_; (simp only [go_sem, simprocAttr, *, Bool.and_true, Bool.and_false, Bool.true_and, Bool.false_and, Bool.or_true, Bool.true_or, Bool.or_false, Bool.false_or, Bool.not_true, Bool.not_false, Bool.false_eq_true]; done)))
      (intro K hK; (simp only [go_sem, simprocAttr]); refine hK _ ?_; clear hK K)
      all_goals (refine awp_ret ?_; (refine hR _ _ (.inl rfl) rfl ?_); (simp only [go_sem, simprocAttr, *, Bool.and_true, Bool.and_false, Bool.true_and, Bool.false_and, Bool.or_true, Bool.true_or, Bool.or_false, Bool.false_or, Bool.not_true, Bool.not_false, Bool.false_eq_true]; done))
    · rw [if_neg (by rw [hc]; exact Bool.false_ne_true)] at hV
      (refine awp_reg_seq [0, 1, 5, 6, 12] fun K hK => ?_; (repeat' ((refine al_r rfl fun K' hK' => ?_); (repeat (simp only [go_sem, simprocAttr])); ((refine hK' _ _ ?_) <;> clear hK' K'))); all_goals (refine al_nil ?_; (simp only [go_sem, simprocAttr]); refine hK _ ?_; clear hK K))
      refine awp_if (t == 2) rfl (fun hc => ?_) (fun hc => ?_)
      · rw [if_pos hc] at hV
        (refine awp_reg_end [0, 1, 5, 6] fun K hK => ?_; (repeat' ((refine al_r rfl fun K' hK' => ?_); (repeat (simp only [go_sem, simprocAttr])); ((refine hK' _ _ ?_) <;> clear hK' K'))); all_goals (refine al_nil ?_; (simp only [go_sem, simprocAttr]); refine hK _ ?_; clear hK K))
        refine hK _ ?_; clear hK K
        refine awp_reg_tov [4] [(4, bD V)] (h := ?_) (k := ?_)
        · cases A
          all_goals ((repeat' (first | ((first | refine al_r rfl fun K' hK' => ?_ | refine al_t rfl rfl fun K' hK' => ?_); (repeat (simp only [go_sem, simprocAttr])); (first | ((refine hK' _ _ ?_) <;> clear hK' K') | ((show AC _ _ (D.fn 86 _) _ _); refine acall_p (f := 86) (e := rfl) (hr := rfl) (k := hK' _ _ ?_) (hc := Try.call86) (h := hi1); clear hK' K') | ((show AC _ _ (D.fn 86 _) _ _); refine acall_p (f := 86) (e := rfl) (hr := rfl) (k := hK' _ _ ?_) (hc := Try.call86) (h := (inR _ _ _)); clear hK' K'))) | refine al_e rfl rfl ?_)); all_goals (refine al_nil ?_; (simp only [go_sem, simprocAttr, *, Bool.and_true, Bool.and_false, Bool.true_and, Bool.false_and, Bool.or_true, Bool.true_or, Bool.or_false, Bool.false_or, Bool.not_true, Bool.not_false, Bool.false_eq_true]; done)))
        (intro K hK; (simp only [go_sem, simprocAttr]); refine hK _ ?_; clear hK K)
        all_goals (refine awp_ret ?_; (refine hR _ _ (.inl rfl) rfl ?_); (simp only [go_sem, simprocAttr, *, Bool.and_true, Bool.and_false, Bool.true_and, Bool.false_and, Bool.or_true, Bool.true_or, Bool.or_false, Bool.false_or, Bool.not_true, Bool.not_false, Bool.false_eq_true]; done))
      · rw [if_neg (by rw [hc]; exact Bool.false_ne_true)] at hV
        refine awp_skip ?_
        refine hK _ ?_; clear hK K
        refine awp_reg_tov [4] [(4, bD V)] (h := ?_) (k := ?_)
        · cases A
          all_goals ((repeat' (first | ((first | refine al_r rfl fun K' hK' => ?_ | refine al_t rfl rfl fun K' hK' => ?_); (repeat (simp only [go_sem, simprocAttr])); (first | ((refine hK' _ _ ?_) <;> clear hK' K') | ((show AC _ _ (D.fn 86 _) _ _); refine acall_p (f := 86) (e := rfl) (hr := rfl) (k := hK' _ _ ?_) (hc := Try.call86) (h := hi1); clear hK' K') | ((show AC _ _ (D.fn 86 _) _ _); refine acall_p (f := 86) (e := rfl) (hr := rfl) (k := hK' _ _ ?_) (hc := Try.call86) (h := (inR _ _ _)); clear hK' K'))) | refine al_e rfl rfl ?_)); all_goals (refine al_nil ?_; (simp only [go_sem, simprocAttr, *, Bool.and_true, Bool.and_false, Bool.true_and, Bool.false_and, Bool.or_true, Bool.true_or, Bool.or_false, Bool.false_or, Bool.not_true, Bool.not_false, Bool.false_eq_true]; done)))
        (intro K hK; (simp only [go_sem, simprocAttr]); refine hK _ ?_; clear hK K)
        all_goals (refine awp_ret ?_; (refine hR _ _ (.inl rfl) rfl ?_); (simp only [go_sem, simprocAttr, *, Bool.and_true, Bool.and_false, Bool.true_and, Bool.false_and, Bool.or_true, Bool.true_or, Bool.or_false, Bool.false_or, Bool.not_true, Bool.not_false, Bool.false_eq_true]; done))
end Go.Proofs.Ytagphggcdmjlpaa.P

/- A word as the reference reads it: a contract. -/
namespace Go.Proofs.Ytagphggcdmjlpaa.P
open Go.Ab Go.Proofs.Ytagphggcdmjlpaa.T

theorem fitsR_of {t n : Int} (h : fits t n = true) : fitsR t n = true := by
  have hl := fits_lt h
  unfold fitsR fitF
  unfold fits at h
  simp only [Bool.or_eq_true, Bool.and_eq_true, beq_iff_eq, decide_eq_true_eq] at h
  by_cases h0 : t = 0
  · rw [if_pos (by simp [h0])]
    simp only [Bool.and_eq_true, decide_eq_true_eq]
    omega
  rw [if_neg (by simpa using h0)]
  by_cases h1 : t = 1
  · rw [if_pos (by simp [h1])]
    simp only [Bool.and_eq_true, decide_eq_true_eq]
    omega
  rw [if_neg (by simpa using h1)]
  by_cases h2 : t = 2
  · rw [if_pos (by simp [h2])]
    simp only [Bool.and_eq_true, decide_eq_true_eq]
    omega
  rw [if_neg (by simpa using h2)]
  simp only [Bool.and_eq_true, decide_eq_true_eq]
  omega


theorem tagRead (w t n : Int) (hf : fits t n = true) (hw : w = (n * 8) % 18446744073709551616 + t) : ACallP Try.prog 60 [wD w] (.tup [iD t, iD n, bD true]) := by
  have hl := fits_lt hf
  have hfi := tagFits t n
  rw [fitsR_of hf] at hfi
  have hwo := tagWord t n
  have e0 : IntKind.u64.wrap (IntKind.u64.wrap (8 * IntKind.u64.wrap n) + IntKind.u64.wrap t) = w := by
    rw [wrapU, wrapU, wrapU, wrapU]; omega
  rw [e0] at hwo
  obtain ⟨n0, hn0⟩ : ∃ n0, n0 = (n * 8) % 18446744073709551616 / 8 := ⟨_, rfl⟩
  have hw0 : 0 ≤ w := by omega
  have e1 : IntKind.i64.wrap (w.tmod 8) = t := by rw [Int.tmod_eq_emod_of_nonneg hw0, wrapI]; omega
  have e2 : IntKind.i64.wrap (IntKind.u64.wrap (w.tdiv 8)) = n0 := by rw [Int.tdiv_eq_ediv_of_nonneg hw0, wrapI, wrapU]; omega
  obtain ⟨X, hX⟩ : ∃ X, (t == 1) = X := ⟨_, rfl⟩
  obtain ⟨Y, hY⟩ : ∃ Y, decide (n0 ≥ 1152921504606846976) = Y := ⟨_, rfl⟩
  have hxy1 : (X && Y) = true → IntKind.i64.wrap (n0 - 2305843009213693952) = n := fun h => by
    rw [← hX, ← hY, Bool.and_eq_true, beq_iff_eq, decide_eq_true_eq] at h
    rw [wrapI]; omega
  have hxy2 : (X && Y) = false → n0 = n := fun h => by
    rw [← hX, ← hY, Bool.and_eq_false_iff, beq_eq_false_iff_ne, decide_eq_false_iff_not] at h
    rcases h with h | h
    · have := hl.2.2.2.2 h; omega
    · by_cases h1 : t = 1
      · omega
      · have := hl.2.2.2.2 h1; omega
  clear e0 hw hw0 hn0 hl hf
  refine acallp_fn [2, 3, 4] Try.func60 rfl rfl Try.ntmps60 (by simp) fun R hR => ?_
  (refine awp_reg_seq [0] fun K hK => ?_; (repeat' ((refine al_r rfl fun K' hK' => ?_); (repeat (simp only [go_sem, simprocAttr, bne_self_eq_false])); ((refine hK' _ _ ?_) <;> clear hK' K'))); all_goals (refine al_nil ?_; (simp only [go_sem, simprocAttr, bne_self_eq_false]); refine hK _ ?_; clear hK K))

  (refine awp_reg_seq [0, 5] fun K hK => ?_; (repeat' ((refine al_r rfl fun K' hK' => ?_); (repeat (simp only [go_sem, simprocAttr, e1, e2])); ((refine hK' _ _ ?_) <;> clear hK' K'))); all_goals (refine al_nil ?_; (simp only [go_sem, simprocAttr, e1, e2]); refine hK _ ?_; clear hK K))
  (refine awp_reg_seq [0, 5, 6] fun K hK => ?_; (repeat' ((refine al_r rfl fun K' hK' => ?_); (repeat (simp only [go_sem, simprocAttr, e1, e2])); ((refine hK' _ _ ?_) <;> clear hK' K'))); all_goals (refine al_nil ?_; (simp only [go_sem, simprocAttr, e1, e2]); refine hK _ ?_; clear hK K))
  refine awp_seq_k fun K hK => ?_

  refine awp_reg_tov [0, 5, 6, 18] [(18, bD (X && Y))] (h := ?_) (k := ?_)
  · cases X <;> cases Y
    all_goals ((repeat' (first | ((first | refine al_r rfl fun K' hK' => ?_ | refine al_t rfl rfl fun K' hK' => ?_); (repeat (simp only [go_sem, simprocAttr, hX, hY])); ((refine hK' _ _ ?_) <;> clear hK' K')) | refine al_e rfl rfl ?_)); all_goals (refine al_nil ?_; (simp only [go_sem, simprocAttr, hX, hY, *, Bool.and_true, Bool.and_false, Bool.true_and, Bool.false_and, Bool.or_true, Bool.true_or, Bool.or_false, Bool.false_or, Bool.not_true, Bool.not_false, Bool.false_eq_true]; done)))
  (intro K hK; (simp only [go_sem, simprocAttr, hX, hY]); refine hK _ ?_; clear hK K)
  refine awp_if (X && Y) rfl (fun hc => ?_) (fun hc => ?_)
  · have e3 := hxy1 hc
    clear hxy1 hxy2

    (refine awp_reg_end [0, 5, 6] fun K hK => ?_; (repeat' ((refine al_r rfl fun K' hK' => ?_); (repeat (simp only [go_sem, simprocAttr, e3, bne_self_eq_false])); ((refine hK' _ _ ?_) <;> clear hK' K'))); all_goals (refine al_nil ?_; (simp only [go_sem, simprocAttr, e3, bne_self_eq_false]); refine hK _ ?_; clear hK K))
    refine hK _ ?_; clear hK K
    refine awp_seq_k fun K hK => ?_
    (refine awp_reg_seq [5, 6, 31] fun K hK => ?_; (repeat' ((first | refine al_r rfl fun K' hK' => ?_ | refine al_t rfl rfl fun K' hK' => ?_); (repeat (simp only [go_sem, simprocAttr, e3, bne_self_eq_false])); (first | ((refine hK' _ _ ?_) <;> clear hK' K') | ((show AC _ _ (D.fn 84 _) _ _); refine acall_p (f := 84) (e := rfl) (hr := rfl) (k := hK' _ _ ?_) (hc := Try.call84) (h := hfi); clear hK' K') | ((show AC _ _ (D.fn 85 _) _ _); refine acall_p (f := 85) (e := rfl) (hr := rfl) (k := hK' _ _ ?_) (hc := Try.call85) (h := hwo); clear hK' K')))); all_goals (refine al_nil ?_; (simp only [go_sem, simprocAttr, e3, bne_self_eq_false]); refine hK _ ?_; clear hK K))
    refine awp_if (_) rfl (fun hc => ?_) (fun hc => ?_)
    · cases hc
    · refine awp_skip ?_
      refine hK _ ?_; clear hK K
      (refine awp_reg_seq [2, 3, 4] fun K hK => ?_; (repeat' ((refine al_r rfl fun K' hK' => ?_); (repeat (simp only [go_sem, simprocAttr, e3, bne_self_eq_false])); ((refine hK' _ _ ?_) <;> clear hK' K'))); all_goals (refine al_nil ?_; (simp only [go_sem, simprocAttr, e3, bne_self_eq_false]); refine hK _ ?_; clear hK K))
      all_goals (refine awp_ret ?_; (refine hR _ _ (.inl rfl) rfl ?_); (simp only [go_sem, simprocAttr, e3, bne_self_eq_false, *, Bool.and_true, Bool.and_false, Bool.true_and, Bool.false_and, Bool.or_true, Bool.true_or, Bool.or_false, Bool.false_or, Bool.not_true, Bool.not_false, Bool.false_eq_true]; done))
  · have e3 := hxy2 hc
    clear hxy1 hxy2
    subst e3

    refine awp_skip ?_
    refine hK _ ?_; clear hK K
    refine awp_seq_k fun K hK => ?_
    (refine awp_reg_seq [5, 6, 31] fun K hK => ?_; (repeat' ((first | refine al_r rfl fun K' hK' => ?_ | refine al_t rfl rfl fun K' hK' => ?_); (repeat (simp only [go_sem, simprocAttr, bne_self_eq_false])); (first | ((refine hK' _ _ ?_) <;> clear hK' K') | ((show AC _ _ (D.fn 84 _) _ _); refine acall_p (f := 84) (e := rfl) (hr := rfl) (k := hK' _ _ ?_) (hc := Try.call84) (h := hfi); clear hK' K') | ((show AC _ _ (D.fn 85 _) _ _); refine acall_p (f := 85) (e := rfl) (hr := rfl) (k := hK' _ _ ?_) (hc := Try.call85) (h := hwo); clear hK' K')))); all_goals (refine al_nil ?_; (simp only [go_sem, simprocAttr, bne_self_eq_false]); refine hK _ ?_; clear hK K))
    refine awp_if (_) rfl (fun hc => ?_) (fun hc => ?_)
    · cases hc
    · refine awp_skip ?_
      refine hK _ ?_; clear hK K
      (refine awp_reg_seq [2, 3, 4] fun K hK => ?_; (repeat' ((refine al_r rfl fun K' hK' => ?_); (repeat (simp only [go_sem, simprocAttr, bne_self_eq_false])); ((refine hK' _ _ ?_) <;> clear hK' K'))); all_goals (refine al_nil ?_; (simp only [go_sem, simprocAttr, bne_self_eq_false]); refine hK _ ?_; clear hK K))
      all_goals (refine awp_ret ?_; (refine hR _ _ (.inl rfl) rfl ?_); (simp only [go_sem, simprocAttr, bne_self_eq_false, *, Bool.and_true, Bool.and_false, Bool.true_and, Bool.false_and, Bool.or_true, Bool.true_or, Bool.or_false, Bool.false_or, Bool.not_true, Bool.not_false, Bool.false_eq_true]; done))

theorem tagReadS {w t n : Int} (h : readS w = (t, n, 0)) : ACallP Try.prog 60 [wD w] (.tup [iD t, iD n, bD true]) := by
  unfold readS at h
  split at h
  · rename_i hc
    obtain ⟨h1, h2⟩ := Prod.mk.inj h
    obtain ⟨h2, _⟩ := Prod.mk.inj h2
    rw [h1, h2] at hc
    have hf := (wordS_snd t n).1 hc.1
    exact tagRead w t n hf (by rw [← hc.2]; exact wordS_fst hf)
  · have := (Prod.mk.inj (Prod.mk.inj h).2).2
    cases this
end Go.Proofs.Ytagphggcdmjlpaa.P

/- May an object be so, as the reference says it: a contract. -/
namespace Go.Proofs.Ytagphggcdmjlpaa.P
open Go.Ab Go.Proofs.Ytagphggcdmjlpaa.T

theorem empty_eq : ((ByteArray.empty).toList == (⟨#[]⟩ : ByteArray).toList) = true := beq_self_eq_true _
theorem empty_size : decide (((ByteArray.empty).size : Int) > 64) = false := rfl


theorem is1 (a : Int) (num : Int) : ACallP Try.prog 87 [.agg [iD a, iD 1, iD num, .p (.lit (.string (ByteArray.empty))), words []]] (bD true) := by
  refine acallp_fn [2] Try.func87 rfl rfl Try.ntmps87 (by simp) fun R hR => ?_
  (refine awp_reg_seq [1] fun K hK => ?_; (repeat' ((refine al_r rfl fun K' hK' => ?_); (repeat (simp only [go_sem, simprocAttr, List.length_map, List.length_nil, empty_eq, empty_size])); ((refine hK' _ _ ?_) <;> clear hK' K'))); all_goals (refine al_nil ?_; (simp only [go_sem, simprocAttr, List.length_map, List.length_nil, empty_eq, empty_size]); refine hK _ ?_; clear hK K))
  (refine awp_frz [1] [] (by decide) (by (simp; done)) ?_; simp only [go_sem, simprocAttr, List.length_map, List.length_nil, empty_eq, empty_size])
  refine awp_draw_seq (by kernel_rfl) [1, 3, 4, 5] fun K hK => ?_
  ((refine ah_r 0 rfl (by kernel_rfl) rfl fun K' hK' => ?_); (simp only [go_sem, simprocAttr, List.length_map, List.length_nil, empty_eq, empty_size]); ((refine hK' _ ?_); clear hK' K'))
  ((refine ah_r 1 rfl (by kernel_rfl) rfl fun K' hK' => ?_); (simp only [go_sem, simprocAttr, List.length_map, List.length_nil, empty_eq, empty_size]); ((refine hK' _ ?_); clear hK' K'))
  ((refine ah_r 2 rfl (by kernel_rfl) rfl fun K' hK' => ?_); (simp only [go_sem, simprocAttr, List.length_map, List.length_nil, empty_eq, empty_size]); ((refine hK' _ ?_); clear hK' K'))
  ((refine ah_r 3 rfl (by kernel_rfl) rfl fun K' hK' => ?_); (simp only [go_sem, simprocAttr, List.length_map, List.length_nil, empty_eq, empty_size]); ((refine hK' _ ?_); clear hK' K'))
  ((refine ah_t 4 rfl (by kernel_rfl) rfl rfl fun K' hK' => ?_); (simp only [go_sem, simprocAttr, List.length_map, List.length_nil, empty_eq, empty_size]); ((refine hK' _ ?_); clear hK' K'))
  ((refine ah_t 5 rfl (by kernel_rfl) rfl rfl fun K' hK' => ?_); (simp only [go_sem, simprocAttr, List.length_map, List.length_nil, empty_eq, empty_size]); ((refine hK' _ ?_); clear hK' K'))
  ((refine ah_t 6 rfl (by kernel_rfl) rfl rfl fun K' hK' => ?_); (simp only [go_sem, simprocAttr, List.length_map, List.length_nil, empty_eq, empty_size]); ((refine hK' _ ?_); clear hK' K'))
  ((refine ah_r 7 rfl (by kernel_rfl) rfl fun K' hK' => ?_); (simp only [go_sem, simprocAttr, List.length_map, List.length_nil, empty_eq, empty_size]); ((refine hK' _ ?_); clear hK' K'))
  ((refine ah_r 8 rfl (by kernel_rfl) rfl fun K' hK' => ?_); (simp only [go_sem, simprocAttr, List.length_map, List.length_nil, empty_eq, empty_size]); ((refine hK' _ ?_); clear hK' K'))
  ((refine ah_r 9 rfl (by kernel_rfl) rfl fun K' hK' => ?_); (simp only [go_sem, simprocAttr, List.length_map, List.length_nil, empty_eq, empty_size]); ((refine hK' _ ?_); clear hK' K'))
  ((refine ah_r 10 rfl (by kernel_rfl) rfl fun K' hK' => ?_); (simp only [go_sem, simprocAttr, List.length_map, List.length_nil, empty_eq, empty_size]); ((refine hK' _ ?_); clear hK' K'))
  ((refine ah_r 11 rfl (by kernel_rfl) rfl fun K' hK' => ?_); (simp only [go_sem, simprocAttr, List.length_map, List.length_nil, empty_eq, empty_size]); ((refine hK' _ ?_); clear hK' K'))
  (refine ah_e 12 rfl (by kernel_rfl) rfl rfl ?_)
  (refine ah_e 13 rfl (by kernel_rfl) rfl rfl ?_)
  (refine ah_e 14 rfl (by kernel_rfl) rfl rfl ?_)
  ((refine ah_r 15 rfl (by kernel_rfl) rfl fun K' hK' => ?_); (simp only [go_sem, simprocAttr, List.length_map, List.length_nil, empty_eq, empty_size]); ((refine hK' _ ?_); clear hK' K'))
  ((refine ah_r 16 rfl (by kernel_rfl) rfl fun K' hK' => ?_); (simp only [go_sem, simprocAttr, List.length_map, List.length_nil, empty_eq, empty_size]); ((refine hK' _ ?_); clear hK' K'))
  ((refine ah_r 17 rfl (by kernel_rfl) rfl fun K' hK' => ?_); (simp only [go_sem, simprocAttr, List.length_map, List.length_nil, empty_eq, empty_size]); ((refine hK' _ ?_); clear hK' K'))
  ((refine ah_r 18 rfl (by kernel_rfl) rfl fun K' hK' => ?_); (simp only [go_sem, simprocAttr, List.length_map, List.length_nil, empty_eq, empty_size]); ((refine hK' _ ?_); clear hK' K'))
  ((refine ah_r 19 rfl (by kernel_rfl) rfl fun K' hK' => ?_); (simp only [go_sem, simprocAttr, List.length_map, List.length_nil, empty_eq, empty_size]); ((refine hK' _ ?_); clear hK' K'))
  ((refine ah_r 20 rfl (by kernel_rfl) rfl fun K' hK' => ?_); (simp only [go_sem, simprocAttr, List.length_map, List.length_nil, empty_eq, empty_size]); ((refine hK' _ ?_); clear hK' K'))
  ((refine ah_r 21 rfl (by kernel_rfl) rfl fun K' hK' => ?_); (simp only [go_sem, simprocAttr, List.length_map, List.length_nil, empty_eq, empty_size]); ((refine hK' _ ?_); clear hK' K'))
  (refine ah_done (by kernel_rfl) ?_; (simp only [go_sem, simprocAttr, List.length_map, List.length_nil, empty_eq, empty_size]); refine hK _ ?_; clear hK K)
  refine awp_seq_k fun K hK => ?_
  (refine awp_reg_seq [1, 3, 4, 5, 51] fun K hK => ?_; (repeat' (first | ((first | refine al_r rfl fun K' hK' => ?_ | refine al_t rfl rfl fun K' hK' => ?_); (repeat (simp only [go_sem, simprocAttr, List.length_map, List.length_nil, empty_eq, empty_size])); (first | ((first | refine hK' _ _ ?_ | refine ⟨?_, hK' _ _ ?_⟩) <;> clear hK' K' <;> (first | (show alist _ _ _ _ _ _; skip) | (intro s hs; cases hs; done) | (simp; done))) | ((show AC _ _ (D.fn 86 _) _ _); refine acall_p (f := 86) (e := rfl) (hr := rfl) (k := hK' _ _ ?_) (hc := Try.call86) (h := (inR _ _ _)); clear hK' K'))) | refine al_e rfl rfl ?_)); all_goals (refine al_nil ?_; (simp only [go_sem, simprocAttr, List.length_map, List.length_nil, empty_eq, empty_size]); refine hK _ ?_; clear hK K))
  refine awp_if (_) rfl (fun hc => ?_) (fun hc => ?_)
  · cases hc
  · refine awp_skip ?_
    refine hK _ ?_; clear hK K
    (refine awp_reg_seq [2] fun K hK => ?_; (repeat' (first | ((first | refine al_r rfl fun K' hK' => ?_ | refine al_t rfl rfl fun K' hK' => ?_); (repeat (simp only [go_sem, simprocAttr, List.length_map, List.length_nil, empty_eq, empty_size])); ((first | refine hK' _ _ ?_ | refine ⟨?_, hK' _ _ ?_⟩) <;> clear hK' K' <;> (first | (show alist _ _ _ _ _ _; skip) | (intro s hs; cases hs; done)))) | refine al_e rfl rfl ?_)); all_goals (refine al_nil ?_; (simp only [go_sem, simprocAttr, List.length_map, List.length_nil, empty_eq, empty_size]); refine hK _ ?_; clear hK K))
    all_goals (refine awp_ret ?_; (refine hR _ _ (.inl rfl) rfl ?_); (simp only [go_sem, simprocAttr, List.length_map, List.length_nil, empty_eq, empty_size, *, Bool.and_true, Bool.and_false, Bool.true_and, Bool.false_and, Bool.or_true, Bool.true_or, Bool.or_false, Bool.false_or, Bool.not_true, Bool.not_false, Bool.false_eq_true]; done))


theorem is2 (a : Int) (text : ByteArray) (hts : decide ((text.size : Int) > 64) = false) : ACallP Try.prog 87 [.agg [iD a, iD 2, iD 0, .p (.lit (.string text)), words []]] (bD true) := by
  refine acallp_fn [2] Try.func87 rfl rfl Try.ntmps87 (by simp) fun R hR => ?_
  (refine awp_reg_seq [1] fun K hK => ?_; (repeat' ((refine al_r rfl fun K' hK' => ?_); (repeat (simp only [go_sem, simprocAttr, List.length_map, List.length_nil, empty_eq, empty_size, hts])); ((refine hK' _ _ ?_) <;> clear hK' K'))); all_goals (refine al_nil ?_; (simp only [go_sem, simprocAttr, List.length_map, List.length_nil, empty_eq, empty_size, hts]); refine hK _ ?_; clear hK K))
  (refine awp_frz [1] [] (by decide) (by (simp; done)) ?_; simp only [go_sem, simprocAttr, List.length_map, List.length_nil, empty_eq, empty_size, hts])
  refine awp_draw_seq (by kernel_rfl) [1, 3, 4, 5] fun K hK => ?_
  ((refine ah_r 0 rfl (by kernel_rfl) rfl fun K' hK' => ?_); (simp only [go_sem, simprocAttr, List.length_map, List.length_nil, empty_eq, empty_size, hts]); ((refine hK' _ ?_); clear hK' K'))
  ((refine ah_r 1 rfl (by kernel_rfl) rfl fun K' hK' => ?_); (simp only [go_sem, simprocAttr, List.length_map, List.length_nil, empty_eq, empty_size, hts]); ((refine hK' _ ?_); clear hK' K'))
  ((refine ah_r 2 rfl (by kernel_rfl) rfl fun K' hK' => ?_); (simp only [go_sem, simprocAttr, List.length_map, List.length_nil, empty_eq, empty_size, hts]); ((refine hK' _ ?_); clear hK' K'))
  ((refine ah_r 3 rfl (by kernel_rfl) rfl fun K' hK' => ?_); (simp only [go_sem, simprocAttr, List.length_map, List.length_nil, empty_eq, empty_size, hts]); ((refine hK' _ ?_); clear hK' K'))
  (refine ah_e 4 rfl (by kernel_rfl) rfl rfl ?_)
  (refine ah_e 5 rfl (by kernel_rfl) rfl rfl ?_)
  (refine ah_e 6 rfl (by kernel_rfl) rfl rfl ?_)
  ((refine ah_r 7 rfl (by kernel_rfl) rfl fun K' hK' => ?_); (simp only [go_sem, simprocAttr, List.length_map, List.length_nil, empty_eq, empty_size, hts]); ((refine hK' _ ?_); clear hK' K'))
  ((refine ah_r 8 rfl (by kernel_rfl) rfl fun K' hK' => ?_); (simp only [go_sem, simprocAttr, List.length_map, List.length_nil, empty_eq, empty_size, hts]); ((refine hK' _ ?_); clear hK' K'))
  ((refine ah_r 9 rfl (by kernel_rfl) rfl fun K' hK' => ?_); (simp only [go_sem, simprocAttr, List.length_map, List.length_nil, empty_eq, empty_size, hts]); ((refine hK' _ ?_); clear hK' K'))
  ((refine ah_r 10 rfl (by kernel_rfl) rfl fun K' hK' => ?_); (simp only [go_sem, simprocAttr, List.length_map, List.length_nil, empty_eq, empty_size, hts]); ((refine hK' _ ?_); clear hK' K'))
  ((refine ah_r 11 rfl (by kernel_rfl) rfl fun K' hK' => ?_); (simp only [go_sem, simprocAttr, List.length_map, List.length_nil, empty_eq, empty_size, hts]); ((refine hK' _ ?_); clear hK' K'))
  ((refine ah_t 12 rfl (by kernel_rfl) rfl rfl fun K' hK' => ?_); (simp only [go_sem, simprocAttr, List.length_map, List.length_nil, empty_eq, empty_size, hts]); ((refine hK' _ ?_); clear hK' K'))
  ((refine ah_t 13 rfl (by kernel_rfl) rfl rfl fun K' hK' => ?_); (simp only [go_sem, simprocAttr, List.length_map, List.length_nil, empty_eq, empty_size, hts]); ((refine hK' _ ?_); clear hK' K'))
  ((refine ah_t 14 rfl (by kernel_rfl) rfl rfl fun K' hK' => ?_); (simp only [go_sem, simprocAttr, List.length_map, List.length_nil, empty_eq, empty_size, hts]); ((refine hK' _ ?_); clear hK' K'))
  ((refine ah_r 15 rfl (by kernel_rfl) rfl fun K' hK' => ?_); (simp only [go_sem, simprocAttr, List.length_map, List.length_nil, empty_eq, empty_size, hts]); ((refine hK' _ ?_); clear hK' K'))
  ((refine ah_r 16 rfl (by kernel_rfl) rfl fun K' hK' => ?_); (simp only [go_sem, simprocAttr, List.length_map, List.length_nil, empty_eq, empty_size, hts]); ((refine hK' _ ?_); clear hK' K'))
  ((refine ah_r 17 rfl (by kernel_rfl) rfl fun K' hK' => ?_); (simp only [go_sem, simprocAttr, List.length_map, List.length_nil, empty_eq, empty_size, hts]); ((refine hK' _ ?_); clear hK' K'))
  ((refine ah_r 18 rfl (by kernel_rfl) rfl fun K' hK' => ?_); (simp only [go_sem, simprocAttr, List.length_map, List.length_nil, empty_eq, empty_size, hts]); ((refine hK' _ ?_); clear hK' K'))
  ((refine ah_r 19 rfl (by kernel_rfl) rfl fun K' hK' => ?_); (simp only [go_sem, simprocAttr, List.length_map, List.length_nil, empty_eq, empty_size, hts]); ((refine hK' _ ?_); clear hK' K'))
  ((refine ah_r 20 rfl (by kernel_rfl) rfl fun K' hK' => ?_); (simp only [go_sem, simprocAttr, List.length_map, List.length_nil, empty_eq, empty_size, hts]); ((refine hK' _ ?_); clear hK' K'))
  ((refine ah_r 21 rfl (by kernel_rfl) rfl fun K' hK' => ?_); (simp only [go_sem, simprocAttr, List.length_map, List.length_nil, empty_eq, empty_size, hts]); ((refine hK' _ ?_); clear hK' K'))
  (refine ah_done (by kernel_rfl) ?_; (simp only [go_sem, simprocAttr, List.length_map, List.length_nil, empty_eq, empty_size, hts]); refine hK _ ?_; clear hK K)
  refine awp_seq_k fun K hK => ?_
  (refine awp_reg_seq [1, 3, 4, 5, 51] fun K hK => ?_; (repeat' (first | ((first | refine al_r rfl fun K' hK' => ?_ | refine al_t rfl rfl fun K' hK' => ?_); (repeat (simp only [go_sem, simprocAttr, List.length_map, List.length_nil, empty_eq, empty_size, hts])); (first | ((first | refine hK' _ _ ?_ | refine ⟨?_, hK' _ _ ?_⟩) <;> clear hK' K' <;> (first | (show alist _ _ _ _ _ _; skip) | (intro s hs; cases hs; done) | (simp; done))) | ((show AC _ _ (D.fn 86 _) _ _); refine acall_p (f := 86) (e := rfl) (hr := rfl) (k := hK' _ _ ?_) (hc := Try.call86) (h := (inR _ _ _)); clear hK' K'))) | refine al_e rfl rfl ?_)); all_goals (refine al_nil ?_; (simp only [go_sem, simprocAttr, List.length_map, List.length_nil, empty_eq, empty_size, hts]); refine hK _ ?_; clear hK K))
  refine awp_if (_) rfl (fun hc => ?_) (fun hc => ?_)
  · cases hc
  · refine awp_skip ?_
    refine hK _ ?_; clear hK K
    (refine awp_reg_seq [2] fun K hK => ?_; (repeat' (first | ((first | refine al_r rfl fun K' hK' => ?_ | refine al_t rfl rfl fun K' hK' => ?_); (repeat (simp only [go_sem, simprocAttr, List.length_map, List.length_nil, empty_eq, empty_size, hts])); ((first | refine hK' _ _ ?_ | refine ⟨?_, hK' _ _ ?_⟩) <;> clear hK' K' <;> (first | (show alist _ _ _ _ _ _; skip) | (intro s hs; cases hs; done)))) | refine al_e rfl rfl ?_)); all_goals (refine al_nil ?_; (simp only [go_sem, simprocAttr, List.length_map, List.length_nil, empty_eq, empty_size, hts]); refine hK _ ?_; clear hK K))
    all_goals (refine awp_ret ?_; (refine hR _ _ (.inl rfl) rfl ?_); (simp only [go_sem, simprocAttr, List.length_map, List.length_nil, empty_eq, empty_size, hts, *, Bool.and_true, Bool.and_false, Bool.true_and, Bool.false_and, Bool.or_true, Bool.true_or, Bool.or_false, Bool.false_or, Bool.not_true, Bool.not_false, Bool.false_eq_true]; done))


theorem is3 (a : Int) (text : ByteArray) (hts : decide ((text.size : Int) > 64) = false) (ps : List Int) (hps : decide ((ps.length : Int) > 400) = false) : ACallP Try.prog 87 [.agg [iD a, iD 3, iD 0, .p (.lit (.string text)), words ps]] (bD true) := by
  refine acallp_fn [2] Try.func87 rfl rfl Try.ntmps87 (by simp) fun R hR => ?_
  (refine awp_reg_seq [1] fun K hK => ?_; (repeat' ((refine al_r rfl fun K' hK' => ?_); (repeat (simp only [go_sem, simprocAttr, List.length_map, List.length_nil, empty_eq, empty_size, hts, hps])); ((refine hK' _ _ ?_) <;> clear hK' K'))); all_goals (refine al_nil ?_; (simp only [go_sem, simprocAttr, List.length_map, List.length_nil, empty_eq, empty_size, hts, hps]); refine hK _ ?_; clear hK K))
  (refine awp_frz [1] [] (by decide) (by (simp; done)) ?_; simp only [go_sem, simprocAttr, List.length_map, List.length_nil, empty_eq, empty_size, hts, hps])
  refine awp_draw_seq (by kernel_rfl) [1, 3, 4, 5] fun K hK => ?_
  ((refine ah_r 0 rfl (by kernel_rfl) rfl fun K' hK' => ?_); (simp only [go_sem, simprocAttr, List.length_map, List.length_nil, empty_eq, empty_size, hts, hps]); ((refine hK' _ ?_); clear hK' K'))
  ((refine ah_r 1 rfl (by kernel_rfl) rfl fun K' hK' => ?_); (simp only [go_sem, simprocAttr, List.length_map, List.length_nil, empty_eq, empty_size, hts, hps]); ((refine hK' _ ?_); clear hK' K'))
  ((refine ah_r 2 rfl (by kernel_rfl) rfl fun K' hK' => ?_); (simp only [go_sem, simprocAttr, List.length_map, List.length_nil, empty_eq, empty_size, hts, hps]); ((refine hK' _ ?_); clear hK' K'))
  ((refine ah_r 3 rfl (by kernel_rfl) rfl fun K' hK' => ?_); (simp only [go_sem, simprocAttr, List.length_map, List.length_nil, empty_eq, empty_size, hts, hps]); ((refine hK' _ ?_); clear hK' K'))
  ((refine ah_t 4 rfl (by kernel_rfl) rfl rfl fun K' hK' => ?_); (simp only [go_sem, simprocAttr, List.length_map, List.length_nil, empty_eq, empty_size, hts, hps]); ((refine hK' _ ?_); clear hK' K'))
  ((refine ah_t 5 rfl (by kernel_rfl) rfl rfl fun K' hK' => ?_); (simp only [go_sem, simprocAttr, List.length_map, List.length_nil, empty_eq, empty_size, hts, hps]); ((refine hK' _ ?_); clear hK' K'))
  ((refine ah_t 6 rfl (by kernel_rfl) rfl rfl fun K' hK' => ?_); (simp only [go_sem, simprocAttr, List.length_map, List.length_nil, empty_eq, empty_size, hts, hps]); ((refine hK' _ ?_); clear hK' K'))
  ((refine ah_r 7 rfl (by kernel_rfl) rfl fun K' hK' => ?_); (simp only [go_sem, simprocAttr, List.length_map, List.length_nil, empty_eq, empty_size, hts, hps]); ((refine hK' _ ?_); clear hK' K'))
  ((refine ah_r 8 rfl (by kernel_rfl) rfl fun K' hK' => ?_); (simp only [go_sem, simprocAttr, List.length_map, List.length_nil, empty_eq, empty_size, hts, hps]); ((refine hK' _ ?_); clear hK' K'))
  ((refine ah_r 9 rfl (by kernel_rfl) rfl fun K' hK' => ?_); (simp only [go_sem, simprocAttr, List.length_map, List.length_nil, empty_eq, empty_size, hts, hps]); ((refine hK' _ ?_); clear hK' K'))
  ((refine ah_r 10 rfl (by kernel_rfl) rfl fun K' hK' => ?_); (simp only [go_sem, simprocAttr, List.length_map, List.length_nil, empty_eq, empty_size, hts, hps]); ((refine hK' _ ?_); clear hK' K'))
  ((refine ah_r 11 rfl (by kernel_rfl) rfl fun K' hK' => ?_); (simp only [go_sem, simprocAttr, List.length_map, List.length_nil, empty_eq, empty_size, hts, hps]); ((refine hK' _ ?_); clear hK' K'))
  ((refine ah_t 12 rfl (by kernel_rfl) rfl rfl fun K' hK' => ?_); (simp only [go_sem, simprocAttr, List.length_map, List.length_nil, empty_eq, empty_size, hts, hps]); ((refine hK' _ ?_); clear hK' K'))
  ((refine ah_t 13 rfl (by kernel_rfl) rfl rfl fun K' hK' => ?_); (simp only [go_sem, simprocAttr, List.length_map, List.length_nil, empty_eq, empty_size, hts, hps]); ((refine hK' _ ?_); clear hK' K'))
  ((refine ah_t 14 rfl (by kernel_rfl) rfl rfl fun K' hK' => ?_); (simp only [go_sem, simprocAttr, List.length_map, List.length_nil, empty_eq, empty_size, hts, hps]); ((refine hK' _ ?_); clear hK' K'))
  ((refine ah_r 15 rfl (by kernel_rfl) rfl fun K' hK' => ?_); (simp only [go_sem, simprocAttr, List.length_map, List.length_nil, empty_eq, empty_size, hts, hps]); ((refine hK' _ ?_); clear hK' K'))
  ((refine ah_r 16 rfl (by kernel_rfl) rfl fun K' hK' => ?_); (simp only [go_sem, simprocAttr, List.length_map, List.length_nil, empty_eq, empty_size, hts, hps]); ((refine hK' _ ?_); clear hK' K'))
  ((refine ah_r 17 rfl (by kernel_rfl) rfl fun K' hK' => ?_); (simp only [go_sem, simprocAttr, List.length_map, List.length_nil, empty_eq, empty_size, hts, hps]); ((refine hK' _ ?_); clear hK' K'))
  ((refine ah_r 18 rfl (by kernel_rfl) rfl fun K' hK' => ?_); (simp only [go_sem, simprocAttr, List.length_map, List.length_nil, empty_eq, empty_size, hts, hps]); ((refine hK' _ ?_); clear hK' K'))
  ((refine ah_r 19 rfl (by kernel_rfl) rfl fun K' hK' => ?_); (simp only [go_sem, simprocAttr, List.length_map, List.length_nil, empty_eq, empty_size, hts, hps]); ((refine hK' _ ?_); clear hK' K'))
  ((refine ah_r 20 rfl (by kernel_rfl) rfl fun K' hK' => ?_); (simp only [go_sem, simprocAttr, List.length_map, List.length_nil, empty_eq, empty_size, hts, hps]); ((refine hK' _ ?_); clear hK' K'))
  ((refine ah_r 21 rfl (by kernel_rfl) rfl fun K' hK' => ?_); (simp only [go_sem, simprocAttr, List.length_map, List.length_nil, empty_eq, empty_size, hts, hps]); ((refine hK' _ ?_); clear hK' K'))
  (refine ah_done (by kernel_rfl) ?_; (simp only [go_sem, simprocAttr, List.length_map, List.length_nil, empty_eq, empty_size, hts, hps]); refine hK _ ?_; clear hK K)
  refine awp_seq_k fun K hK => ?_
  (refine awp_reg_seq [1, 3, 4, 5, 51] fun K hK => ?_; (repeat' (first | ((first | refine al_r rfl fun K' hK' => ?_ | refine al_t rfl rfl fun K' hK' => ?_); (repeat (simp only [go_sem, simprocAttr, List.length_map, List.length_nil, empty_eq, empty_size, hts, hps])); (first | ((first | refine hK' _ _ ?_ | refine ⟨?_, hK' _ _ ?_⟩) <;> clear hK' K' <;> (first | (show alist _ _ _ _ _ _; skip) | (intro s hs; cases hs; done) | (simp; done))) | ((show AC _ _ (D.fn 86 _) _ _); refine acall_p (f := 86) (e := rfl) (hr := rfl) (k := hK' _ _ ?_) (hc := Try.call86) (h := (inR _ _ _)); clear hK' K'))) | refine al_e rfl rfl ?_)); all_goals (refine al_nil ?_; (simp only [go_sem, simprocAttr, List.length_map, List.length_nil, empty_eq, empty_size, hts, hps]); refine hK _ ?_; clear hK K))
  refine awp_if (_) rfl (fun hc => ?_) (fun hc => ?_)
  · cases hc
  · refine awp_skip ?_
    refine hK _ ?_; clear hK K
    (refine awp_reg_seq [2] fun K hK => ?_; (repeat' (first | ((first | refine al_r rfl fun K' hK' => ?_ | refine al_t rfl rfl fun K' hK' => ?_); (repeat (simp only [go_sem, simprocAttr, List.length_map, List.length_nil, empty_eq, empty_size, hts, hps])); ((refine hK' _ _ ?_) <;> clear hK' K')) | refine al_e rfl rfl ?_)); all_goals (refine al_nil ?_; (simp only [go_sem, simprocAttr, List.length_map, List.length_nil, empty_eq, empty_size, hts, hps]); refine hK _ ?_; clear hK K))
    all_goals (refine awp_ret ?_; (refine hR _ _ (.inl rfl) rfl ?_); (simp only [go_sem, simprocAttr, List.length_map, List.length_nil, empty_eq, empty_size, hts, hps, *, Bool.and_true, Bool.and_false, Bool.true_and, Bool.false_and, Bool.or_true, Bool.true_or, Bool.or_false, Bool.false_or, Bool.not_true, Bool.not_false, Bool.false_eq_true]; done))


theorem is4 (a : Int) (num : Int) (ps : List Int) (hps : decide ((ps.length : Int) > 400) = false) : ACallP Try.prog 87 [.agg [iD a, iD 4, iD num, .p (.lit (.string (ByteArray.empty))), words ps]] (bD true) := by
  refine acallp_fn [2] Try.func87 rfl rfl Try.ntmps87 (by simp) fun R hR => ?_
  (refine awp_reg_seq [1] fun K hK => ?_; (repeat' ((refine al_r rfl fun K' hK' => ?_); (repeat (simp only [go_sem, simprocAttr, List.length_map, List.length_nil, empty_eq, empty_size, hps])); ((refine hK' _ _ ?_) <;> clear hK' K'))); all_goals (refine al_nil ?_; (simp only [go_sem, simprocAttr, List.length_map, List.length_nil, empty_eq, empty_size, hps]); refine hK _ ?_; clear hK K))
  (refine awp_frz [1] [] (by decide) (by (simp; done)) ?_; simp only [go_sem, simprocAttr, List.length_map, List.length_nil, empty_eq, empty_size, hps])
  refine awp_draw_seq (by kernel_rfl) [1, 3, 4, 5] fun K hK => ?_
  ((refine ah_r 0 rfl (by kernel_rfl) rfl fun K' hK' => ?_); (simp only [go_sem, simprocAttr, List.length_map, List.length_nil, empty_eq, empty_size, hps]); ((refine hK' _ ?_); clear hK' K'))
  ((refine ah_r 1 rfl (by kernel_rfl) rfl fun K' hK' => ?_); (simp only [go_sem, simprocAttr, List.length_map, List.length_nil, empty_eq, empty_size, hps]); ((refine hK' _ ?_); clear hK' K'))
  ((refine ah_r 2 rfl (by kernel_rfl) rfl fun K' hK' => ?_); (simp only [go_sem, simprocAttr, List.length_map, List.length_nil, empty_eq, empty_size, hps]); ((refine hK' _ ?_); clear hK' K'))
  ((refine ah_r 3 rfl (by kernel_rfl) rfl fun K' hK' => ?_); (simp only [go_sem, simprocAttr, List.length_map, List.length_nil, empty_eq, empty_size, hps]); ((refine hK' _ ?_); clear hK' K'))
  ((refine ah_t 4 rfl (by kernel_rfl) rfl rfl fun K' hK' => ?_); (simp only [go_sem, simprocAttr, List.length_map, List.length_nil, empty_eq, empty_size, hps]); ((refine hK' _ ?_); clear hK' K'))
  ((refine ah_t 5 rfl (by kernel_rfl) rfl rfl fun K' hK' => ?_); (simp only [go_sem, simprocAttr, List.length_map, List.length_nil, empty_eq, empty_size, hps]); ((refine hK' _ ?_); clear hK' K'))
  ((refine ah_t 6 rfl (by kernel_rfl) rfl rfl fun K' hK' => ?_); (simp only [go_sem, simprocAttr, List.length_map, List.length_nil, empty_eq, empty_size, hps]); ((refine hK' _ ?_); clear hK' K'))
  ((refine ah_r 7 rfl (by kernel_rfl) rfl fun K' hK' => ?_); (simp only [go_sem, simprocAttr, List.length_map, List.length_nil, empty_eq, empty_size, hps]); ((refine hK' _ ?_); clear hK' K'))
  ((refine ah_r 8 rfl (by kernel_rfl) rfl fun K' hK' => ?_); (simp only [go_sem, simprocAttr, List.length_map, List.length_nil, empty_eq, empty_size, hps]); ((refine hK' _ ?_); clear hK' K'))
  ((refine ah_r 9 rfl (by kernel_rfl) rfl fun K' hK' => ?_); (simp only [go_sem, simprocAttr, List.length_map, List.length_nil, empty_eq, empty_size, hps]); ((refine hK' _ ?_); clear hK' K'))
  ((refine ah_r 10 rfl (by kernel_rfl) rfl fun K' hK' => ?_); (simp only [go_sem, simprocAttr, List.length_map, List.length_nil, empty_eq, empty_size, hps]); ((refine hK' _ ?_); clear hK' K'))
  ((refine ah_r 11 rfl (by kernel_rfl) rfl fun K' hK' => ?_); (simp only [go_sem, simprocAttr, List.length_map, List.length_nil, empty_eq, empty_size, hps]); ((refine hK' _ ?_); clear hK' K'))
  ((refine ah_t 12 rfl (by kernel_rfl) rfl rfl fun K' hK' => ?_); (simp only [go_sem, simprocAttr, List.length_map, List.length_nil, empty_eq, empty_size, hps]); ((refine hK' _ ?_); clear hK' K'))
  ((refine ah_t 13 rfl (by kernel_rfl) rfl rfl fun K' hK' => ?_); (simp only [go_sem, simprocAttr, List.length_map, List.length_nil, empty_eq, empty_size, hps]); ((refine hK' _ ?_); clear hK' K'))
  ((refine ah_t 14 rfl (by kernel_rfl) rfl rfl fun K' hK' => ?_); (simp only [go_sem, simprocAttr, List.length_map, List.length_nil, empty_eq, empty_size, hps]); ((refine hK' _ ?_); clear hK' K'))
  ((refine ah_r 15 rfl (by kernel_rfl) rfl fun K' hK' => ?_); (simp only [go_sem, simprocAttr, List.length_map, List.length_nil, empty_eq, empty_size, hps]); ((refine hK' _ ?_); clear hK' K'))
  ((refine ah_r 16 rfl (by kernel_rfl) rfl fun K' hK' => ?_); (simp only [go_sem, simprocAttr, List.length_map, List.length_nil, empty_eq, empty_size, hps]); ((refine hK' _ ?_); clear hK' K'))
  ((refine ah_r 17 rfl (by kernel_rfl) rfl fun K' hK' => ?_); (simp only [go_sem, simprocAttr, List.length_map, List.length_nil, empty_eq, empty_size, hps]); ((refine hK' _ ?_); clear hK' K'))
  ((refine ah_r 18 rfl (by kernel_rfl) rfl fun K' hK' => ?_); (simp only [go_sem, simprocAttr, List.length_map, List.length_nil, empty_eq, empty_size, hps]); ((refine hK' _ ?_); clear hK' K'))
  ((refine ah_r 19 rfl (by kernel_rfl) rfl fun K' hK' => ?_); (simp only [go_sem, simprocAttr, List.length_map, List.length_nil, empty_eq, empty_size, hps]); ((refine hK' _ ?_); clear hK' K'))
  ((refine ah_r 20 rfl (by kernel_rfl) rfl fun K' hK' => ?_); (simp only [go_sem, simprocAttr, List.length_map, List.length_nil, empty_eq, empty_size, hps]); ((refine hK' _ ?_); clear hK' K'))
  ((refine ah_r 21 rfl (by kernel_rfl) rfl fun K' hK' => ?_); (simp only [go_sem, simprocAttr, List.length_map, List.length_nil, empty_eq, empty_size, hps]); ((refine hK' _ ?_); clear hK' K'))
  (refine ah_done (by kernel_rfl) ?_; (simp only [go_sem, simprocAttr, List.length_map, List.length_nil, empty_eq, empty_size, hps]); refine hK _ ?_; clear hK K)
  refine awp_seq_k fun K hK => ?_
  (refine awp_reg_seq [1, 3, 4, 5, 51] fun K hK => ?_; (repeat' (first | ((first | refine al_r rfl fun K' hK' => ?_ | refine al_t rfl rfl fun K' hK' => ?_); (repeat (simp only [go_sem, simprocAttr, List.length_map, List.length_nil, empty_eq, empty_size, hps])); (first | ((first | refine hK' _ _ ?_ | refine ⟨?_, hK' _ _ ?_⟩) <;> clear hK' K' <;> (first | (show alist _ _ _ _ _ _; skip) | (intro s hs; cases hs; done) | (simp; done))) | ((show AC _ _ (D.fn 86 _) _ _); refine acall_p (f := 86) (e := rfl) (hr := rfl) (k := hK' _ _ ?_) (hc := Try.call86) (h := (inR _ _ _)); clear hK' K'))) | refine al_e rfl rfl ?_)); all_goals (refine al_nil ?_; (simp only [go_sem, simprocAttr, List.length_map, List.length_nil, empty_eq, empty_size, hps]); refine hK _ ?_; clear hK K))
  refine awp_if (_) rfl (fun hc => ?_) (fun hc => ?_)
  · cases hc
  · refine awp_skip ?_
    refine hK _ ?_; clear hK K
    (refine awp_reg_seq [2] fun K hK => ?_; (repeat' (first | ((first | refine al_r rfl fun K' hK' => ?_ | refine al_t rfl rfl fun K' hK' => ?_); (repeat (simp only [go_sem, simprocAttr, List.length_map, List.length_nil, empty_eq, empty_size, hps])); ((refine hK' _ _ ?_) <;> clear hK' K')) | refine al_e rfl rfl ?_)); all_goals (refine al_nil ?_; (simp only [go_sem, simprocAttr, List.length_map, List.length_nil, empty_eq, empty_size, hps]); refine hK _ ?_; clear hK K))
    all_goals (refine awp_ret ?_; (refine hR _ _ (.inl rfl) rfl ?_); (simp only [go_sem, simprocAttr, List.length_map, List.length_nil, empty_eq, empty_size, hps, *, Bool.and_true, Bool.and_false, Bool.true_and, Bool.false_and, Bool.or_true, Bool.true_or, Bool.or_false, Bool.false_or, Bool.not_true, Bool.not_false, Bool.false_eq_true]; done))


theorem is5 (a : Int) (ps : List Int) (hps : decide ((ps.length : Int) > 400) = false) (hp1 : decide ((ps.length : Int) > 1) = false) : ACallP Try.prog 87 [.agg [iD a, iD 5, iD 0, .p (.lit (.string (ByteArray.empty))), words ps]] (bD true) := by
  refine acallp_fn [2] Try.func87 rfl rfl Try.ntmps87 (by simp) fun R hR => ?_
  (refine awp_reg_seq [1] fun K hK => ?_; (repeat' ((refine al_r rfl fun K' hK' => ?_); (repeat (simp only [go_sem, simprocAttr, List.length_map, List.length_nil, empty_eq, empty_size, hps, hp1])); ((refine hK' _ _ ?_) <;> clear hK' K'))); all_goals (refine al_nil ?_; (simp only [go_sem, simprocAttr, List.length_map, List.length_nil, empty_eq, empty_size, hps, hp1]); refine hK _ ?_; clear hK K))
  (refine awp_frz [1] [] (by decide) (by (simp; done)) ?_; simp only [go_sem, simprocAttr, List.length_map, List.length_nil, empty_eq, empty_size, hps, hp1])
  refine awp_draw_seq (by kernel_rfl) [1, 3, 4, 5] fun K hK => ?_
  ((refine ah_r 0 rfl (by kernel_rfl) rfl fun K' hK' => ?_); (simp only [go_sem, simprocAttr, List.length_map, List.length_nil, empty_eq, empty_size, hps, hp1]); ((refine hK' _ ?_); clear hK' K'))
  ((refine ah_r 1 rfl (by kernel_rfl) rfl fun K' hK' => ?_); (simp only [go_sem, simprocAttr, List.length_map, List.length_nil, empty_eq, empty_size, hps, hp1]); ((refine hK' _ ?_); clear hK' K'))
  ((refine ah_r 2 rfl (by kernel_rfl) rfl fun K' hK' => ?_); (simp only [go_sem, simprocAttr, List.length_map, List.length_nil, empty_eq, empty_size, hps, hp1]); ((refine hK' _ ?_); clear hK' K'))
  ((refine ah_r 3 rfl (by kernel_rfl) rfl fun K' hK' => ?_); (simp only [go_sem, simprocAttr, List.length_map, List.length_nil, empty_eq, empty_size, hps, hp1]); ((refine hK' _ ?_); clear hK' K'))
  ((refine ah_t 4 rfl (by kernel_rfl) rfl rfl fun K' hK' => ?_); (simp only [go_sem, simprocAttr, List.length_map, List.length_nil, empty_eq, empty_size, hps, hp1]); ((refine hK' _ ?_); clear hK' K'))
  ((refine ah_t 5 rfl (by kernel_rfl) rfl rfl fun K' hK' => ?_); (simp only [go_sem, simprocAttr, List.length_map, List.length_nil, empty_eq, empty_size, hps, hp1]); ((refine hK' _ ?_); clear hK' K'))
  ((refine ah_t 6 rfl (by kernel_rfl) rfl rfl fun K' hK' => ?_); (simp only [go_sem, simprocAttr, List.length_map, List.length_nil, empty_eq, empty_size, hps, hp1]); ((refine hK' _ ?_); clear hK' K'))
  ((refine ah_r 7 rfl (by kernel_rfl) rfl fun K' hK' => ?_); (simp only [go_sem, simprocAttr, List.length_map, List.length_nil, empty_eq, empty_size, hps, hp1]); ((refine hK' _ ?_); clear hK' K'))
  ((refine ah_r 8 rfl (by kernel_rfl) rfl fun K' hK' => ?_); (simp only [go_sem, simprocAttr, List.length_map, List.length_nil, empty_eq, empty_size, hps, hp1]); ((refine hK' _ ?_); clear hK' K'))
  ((refine ah_r 9 rfl (by kernel_rfl) rfl fun K' hK' => ?_); (simp only [go_sem, simprocAttr, List.length_map, List.length_nil, empty_eq, empty_size, hps, hp1]); ((refine hK' _ ?_); clear hK' K'))
  ((refine ah_r 10 rfl (by kernel_rfl) rfl fun K' hK' => ?_); (simp only [go_sem, simprocAttr, List.length_map, List.length_nil, empty_eq, empty_size, hps, hp1]); ((refine hK' _ ?_); clear hK' K'))
  ((refine ah_r 11 rfl (by kernel_rfl) rfl fun K' hK' => ?_); (simp only [go_sem, simprocAttr, List.length_map, List.length_nil, empty_eq, empty_size, hps, hp1]); ((refine hK' _ ?_); clear hK' K'))
  ((refine ah_t 12 rfl (by kernel_rfl) rfl rfl fun K' hK' => ?_); (simp only [go_sem, simprocAttr, List.length_map, List.length_nil, empty_eq, empty_size, hps, hp1]); ((refine hK' _ ?_); clear hK' K'))
  ((refine ah_t 13 rfl (by kernel_rfl) rfl rfl fun K' hK' => ?_); (simp only [go_sem, simprocAttr, List.length_map, List.length_nil, empty_eq, empty_size, hps, hp1]); ((refine hK' _ ?_); clear hK' K'))
  ((refine ah_t 14 rfl (by kernel_rfl) rfl rfl fun K' hK' => ?_); (simp only [go_sem, simprocAttr, List.length_map, List.length_nil, empty_eq, empty_size, hps, hp1]); ((refine hK' _ ?_); clear hK' K'))
  ((refine ah_r 15 rfl (by kernel_rfl) rfl fun K' hK' => ?_); (simp only [go_sem, simprocAttr, List.length_map, List.length_nil, empty_eq, empty_size, hps, hp1]); ((refine hK' _ ?_); clear hK' K'))
  ((refine ah_r 16 rfl (by kernel_rfl) rfl fun K' hK' => ?_); (simp only [go_sem, simprocAttr, List.length_map, List.length_nil, empty_eq, empty_size, hps, hp1]); ((refine hK' _ ?_); clear hK' K'))
  ((refine ah_r 17 rfl (by kernel_rfl) rfl fun K' hK' => ?_); (simp only [go_sem, simprocAttr, List.length_map, List.length_nil, empty_eq, empty_size, hps, hp1]); ((refine hK' _ ?_); clear hK' K'))
  ((refine ah_r 18 rfl (by kernel_rfl) rfl fun K' hK' => ?_); (simp only [go_sem, simprocAttr, List.length_map, List.length_nil, empty_eq, empty_size, hps, hp1]); ((refine hK' _ ?_); clear hK' K'))
  ((refine ah_r 19 rfl (by kernel_rfl) rfl fun K' hK' => ?_); (simp only [go_sem, simprocAttr, List.length_map, List.length_nil, empty_eq, empty_size, hps, hp1]); ((refine hK' _ ?_); clear hK' K'))
  ((refine ah_r 20 rfl (by kernel_rfl) rfl fun K' hK' => ?_); (simp only [go_sem, simprocAttr, List.length_map, List.length_nil, empty_eq, empty_size, hps, hp1]); ((refine hK' _ ?_); clear hK' K'))
  ((refine ah_r 21 rfl (by kernel_rfl) rfl fun K' hK' => ?_); (simp only [go_sem, simprocAttr, List.length_map, List.length_nil, empty_eq, empty_size, hps, hp1]); ((refine hK' _ ?_); clear hK' K'))
  (refine ah_done (by kernel_rfl) ?_; (simp only [go_sem, simprocAttr, List.length_map, List.length_nil, empty_eq, empty_size, hps, hp1]); refine hK _ ?_; clear hK K)
  refine awp_seq_k fun K hK => ?_
  (refine awp_reg_seq [1, 3, 4, 5, 51] fun K hK => ?_; (repeat' ((first | refine al_r rfl fun K' hK' => ?_ | refine al_t rfl rfl fun K' hK' => ?_); (repeat (simp only [go_sem, simprocAttr, List.length_map, List.length_nil, empty_eq, empty_size, hps, hp1])); (first | ((first | refine hK' _ _ ?_ | refine ⟨?_, hK' _ _ ?_⟩) <;> clear hK' K' <;> (first | (show alist _ _ _ _ _ _; skip) | (intro s hs; cases hs; done) | (simp; done))) | ((show AC _ _ (D.fn 86 _) _ _); refine acall_p (f := 86) (e := rfl) (hr := rfl) (k := hK' _ _ ?_) (hc := Try.call86) (h := (inR _ _ _)); clear hK' K')))); all_goals (refine al_nil ?_; (simp only [go_sem, simprocAttr, List.length_map, List.length_nil, empty_eq, empty_size, hps, hp1]); refine hK _ ?_; clear hK K))
  refine awp_if (_) rfl (fun hc => ?_) (fun hc => ?_)
  · cases hc
  · refine awp_skip ?_
    refine hK _ ?_; clear hK K
    (refine awp_reg_seq [2] fun K hK => ?_; (repeat' (first | ((first | refine al_r rfl fun K' hK' => ?_ | refine al_t rfl rfl fun K' hK' => ?_); (repeat (simp only [go_sem, simprocAttr, List.length_map, List.length_nil, empty_eq, empty_size, hps, hp1])); ((refine hK' _ _ ?_) <;> clear hK' K')) | refine al_e rfl rfl ?_)); all_goals (refine al_nil ?_; (simp only [go_sem, simprocAttr, List.length_map, List.length_nil, empty_eq, empty_size, hps, hp1]); refine hK _ ?_; clear hK K))
    all_goals (refine awp_ret ?_; (refine hR _ _ (.inl rfl) rfl ?_); (simp only [go_sem, simprocAttr, List.length_map, List.length_nil, empty_eq, empty_size, hps, hp1, *, Bool.and_true, Bool.and_false, Bool.true_and, Bool.false_and, Bool.or_true, Bool.true_or, Bool.or_false, Bool.false_or, Bool.not_true, Bool.not_false, Bool.false_eq_true]; done))
end Go.Proofs.Ytagphggcdmjlpaa.P

/- The words of an object, as the reference tells them: a contract. -/
namespace Go.Proofs.Ytagphggcdmjlpaa.P
open Go.Ab Go.Proofs.Ytagphggcdmjlpaa.T

theorem objectIs {o : Obj} (h : rightS o = true) : ACallP Try.prog 87 [objD o] (bD true) := by
  obtain ⟨a, k, num, text, ps⟩ := o
  have h0 := h
  obtain ⟨hs, hp⟩ := right_small h
  obtain ⟨kk, hk, hk1, hk5⟩ := right_kind h
  unfold rightS at h
  simp only [Bool.and_eq_true, Bool.not_eq_true', Bool.and_eq_false_iff, Bool.or_eq_true] at h hs hp hk ⊢
  obtain ⟨_, h2, h3, h4, h5⟩ := h
  have hts : decide ((text.size : Int) > 64) = false := by simp; omega
  have hps : decide ((ps.length : Int) > 400) = false := by simp; omega
  have hte : (k ≠ 2 ∧ k ≠ 3) → text = ByteArray.empty := fun hne => by
    rcases h3 with h3 | h3
    · rcases h3 with h3 | h3
      · have : k = 2 := by simpa using h3
        exact absurd this hne.1
      · have : k = 3 := by simpa using h3
        exact absurd this hne.2
    · exact text_nil (by simpa using h3)
  have hpe : (k = 1 ∨ k = 2) → ps = [] := fun he => by
    rcases h2 with h2 | h2
    · exfalso
      rw [Bool.or_eq_false_iff, beq_eq_false_iff_ne, beq_eq_false_iff_ne] at h2
      rcases he with he | he
      · exact h2.1 he
      · exact h2.2 he
    · cases ps with
      | nil => rfl
      | cons x l => simp at h2
  have hne : (k ≠ 1 ∧ k ≠ 4) → num = 0 := fun he => by
    rcases h4 with h4 | h4
    · rcases h4 with h4 | h4
      · have : k = 1 := by simpa using h4
        exact absurd this he.1
      · have : k = 4 := by simpa using h4
        exact absurd this he.2
    · simpa using h4
  have hcases : k = 1 ∨ k = 2 ∨ k = 3 ∨ k = 4 ∨ k = 5 := by omega
  rcases hcases with rfl | rfl | rfl | rfl | rfl
  · rw [hte (by omega), hpe (by omega)]; exact is1 a num
  · rw [hpe (by omega), hne (by omega)]; exact is2 a text hts
  · rw [hne (by omega)]; exact is3 a text hts ps hps
  · rw [hte (by omega)]; exact is4 a num ps hps
  · rw [hte (by omega), hne (by omega)]
    refine is5 a ps hps ?_
    rcases h5 with h5 | h5
    · simp at h5
    · have : (ps.length : Int) ≤ 1 := by simpa using h5
      exact decide_eq_false (by omega)

/-- Bytes from a place on, the first one worth least. -/
def hor (s : ByteArray) (i : Nat) : Nat → Nat → Nat
  | _, 0 => 0
  | a, m + 1 => byteV s (i + a) + 256 * hor s i (a + 1) m

theorem hor_lt (s : ByteArray) (i : Nat) : ∀ (m a : Nat), hor s i a m < 256 ^ m
  | 0, _ => by simp [hor]
  | m + 1, a => by
    have h1 := hor_lt s i m (a + 1)
    have h2 := byteV_lt s (i + a)
    rw [hor, Nat.pow_succ]
    omega

theorem sum_hor (s : ByteArray) (i : Nat) : ∀ (m k : Nat), sumF s i m k = hor s i k m * 2 ^ (8 * k)
  | 0, k => by simp [sumF, hor]
  | m + 1, k => by
    rw [sumF, hor, sum_hor s i m (k + 1), Nat.add_mul, Nat.mul_add, Nat.mul_one, Nat.pow_add]
    have : (2 : Nat) ^ 8 = 256 := rfl
    rw [this]
    have e : hor s i (k + 1) m * (2 ^ (8 * k) * 256) = 256 * hor s i (k + 1) m * 2 ^ (8 * k) := by
      rw [Nat.mul_comm (2 ^ (8 * k)) 256, ← Nat.mul_assoc, Nat.mul_comm (hor s i (k + 1) m) 256]
    rw [e]

theorem byteV_out {s : ByteArray} {i : Nat} (h : s.size ≤ i) : byteV s i = 0 := by
  unfold byteV
  rw [getElem?_neg s i (by omega)]

theorem hor_zero (s : ByteArray) (i : Nat) : ∀ (m a : Nat), s.size ≤ i + a → hor s i a m = 0
  | 0, _, _ => rfl
  | m + 1, a, h => by
    rw [hor, byteV_out h, hor_zero s i m (a + 1) (by omega)]

theorem hor_more (s : ByteArray) (i : Nat) : ∀ (m a d : Nat), s.size ≤ i + a + m → hor s i a (m + d) = hor s i a m
  | 0, a, d, h => by rw [Nat.zero_add]; exact hor_zero s i d a (by omega)
  | m + 1, a, d, h => by
    rw [show m + 1 + d = (m + d) + 1 by omega, hor, hor, hor_more s i m (a + 1) d (by omega)]

/-- A word of a text, by its bytes. -/
theorem word_hor (s : ByteArray) (i m : Nat) (hm : m ≤ 8) (h : s.size ≤ i + m ∨ m = 8) : wordAt s i = (hor s i 0 m : Int) := by
  rw [word_val, sum_hor, Nat.mul_zero, Nat.pow_zero, Nat.mul_one]
  rcases h with h | h
  · have := hor_more s i m 0 (8 - m) (by omega)
    rw [show m + (8 - m) = 8 by omega] at this
    rw [this]
  · subst h; rfl

theorem ext_get {s : ByteArray} {a k : Nat} (h : a + k < s.size) : ∃ b, (s.extract a s.size)[k]? = some b ∧ (b.toNat : Int) = (byteV s (a + k) : Int) := by
  obtain ⟨b, hb⟩ := get_byte h
  refine ⟨b, ?_, by unfold byteV; rw [hb]⟩
  have hsz : k < (s.extract a s.size).size := by rw [ByteArray.size_extract]; omega
  rw [getElem?_pos (s.extract a s.size) k hsz]
  rw [getElem?_pos s (a + k) h] at hb
  rw [← hb]
  congr 1
  exact ByteArray.getElem_extract _
end Go.Proofs.Ytagphggcdmjlpaa.P

/- The words of an object, as the reference tells them: the walk. -/
namespace Go.Proofs.Ytagphggcdmjlpaa.P
open Go.Ab Go.Proofs.Ytagphggcdmjlpaa.T

theorem ext_size (s : ByteArray) (a : Nat) : (s.extract a s.size).size = s.size - a := by rw [ByteArray.size_extract]; omega

theorem ext_ext (s : ByteArray) (a m : Nat) : (s.extract a s.size).extract m (s.extract a s.size).size = s.extract (a + m) s.size := by
  rw [ext_size, ByteArray.extract_extract]
  congr 1
  omega

theorem ext_empty (s : ByteArray) (a : Nat) : (!((s.extract a s.size).toList == (⟨#[]⟩ : ByteArray).toList)) = decide (a < s.size) := by
  by_cases h : a < s.size
  · rw [decide_eq_true h, Bool.not_eq_true']
    rw [Bool.eq_false_iff]
    intro he
    have := text_nil he
    have h2 := ext_size s a
    rw [this] at h2
    have h3 : (ByteArray.empty).size = 0 := rfl
    omega
  · rw [decide_eq_false h]
    have h2 := ext_size s a
    have key : ∀ t : ByteArray, t.size = 0 → t = ⟨#[]⟩ := fun t ht => by
      obtain ⟨d⟩ := t
      have : d = #[] := Array.eq_empty_of_size_eq_zero ht
      rw [this]
    have := key (s.extract a s.size) (by omega)
    rw [this, beq_self_eq_true]; rfl

theorem head_sum {o : Obj} (h : rightS o = true) : IntKind.u64.wrap (IntKind.u64.wrap (IntKind.u64.wrap o.kind + IntKind.u64.wrap (256 * IntKind.u64.wrap (o.text.size : Int))) + IntKind.u64.wrap (1048576 * IntKind.u64.wrap (o.parts.length : Int))) = headS o := by
  obtain ⟨k, hk, hk1, hk5⟩ := right_kind h
  obtain ⟨h1, h2⟩ := right_small h
  rw [head_val h hk hk5, hk, wrapU, wrapU, wrapU, wrapU, wrapU, wrapU, wrapU]
  omega

theorem ext_zero (s : ByteArray) : s = s.extract 0 s.size := by rw [ByteArray.extract_zero_size]


set_option maxRecDepth 100000 in
theorem objectWords {o : Obj} (hr : rightS o = true) : ACallP Try.prog 88 [objD o] (words (encW o)) := by
  have hhs := head_sum hr
  obtain ⟨hs64, hp400⟩ := right_small hr
  have hel := enc_len o
  have hrl : roomN o.kind o.text.size o.parts.length ≤ 500 := by unfold roomN; split <;> omega
  obtain ⟨RC, hRC⟩ : ∃ RC, RC = encW o := ⟨_, rfl⟩
  have hRC2 : RC = [headS o] ++ (if (o.kind == 1 || o.kind == 4) = true then [IntKind.u64.wrap o.num] else []) ++ textW o.text ++ o.parts := by rw [hRC]; unfold encW numW; simp
  rw [← hRC] at hel ⊢
  have el9 : elO Try.prog 9 = none := by kernel_rfl
  clear hRC hr
  generalize headS o = H at *
  obtain ⟨oa, ok, on, tx, ps⟩ := o
  simp only at hhs hs64 hp400 hel hrl hRC2
  refine acallp_fn [2] Try.func88 rfl rfl Try.ntmps88 (by simp) fun R hR => ?_
  (refine awp_reg_seq [1] fun K hK => ?_; (repeat' ((refine al_r rfl fun K' hK' => ?_); (repeat (simp only [go_sem, simprocAttr, List.length_map])); ((refine hK' _ _ ?_) <;> clear hK' K'))); all_goals (refine al_nil ?_; (simp only [go_sem, simprocAttr, List.length_map]); refine hK _ ?_; clear hK K))
  (refine awp_frz [1] [] (by decide) (by (simp; done)) ?_; simp only [go_sem, simprocAttr, List.length_map])

  (refine awp_reg_seq [1, 3] fun K hK => ?_; (repeat' ((refine al_r rfl fun K' hK' => ?_); (repeat (simp only [go_sem, simprocAttr, List.length_map, hhs])); ((first | refine hK' _ _ ?_ | refine ⟨?_, hK' _ _ ?_⟩) <;> clear hK' K' <;> (first | (show alist _ _ _ _ _ _; skip) | (intro s hs; cases hs; done) | (simp; done))))); all_goals (refine al_nil ?_; (simp only [go_sem, simprocAttr, List.length_map, hhs]); refine hK _ ?_; clear hK K))
  refine awp_seq_kc fun K hK hcut => ?_
  have key : ∀ W : List Int, W.length ≤ 2 → RC = W ++ textW tx ++ ps → K ⟨ofL [(1, .rd [.lit (.int .i64 oa), .lit (.int .i64 ok), .lit (.int .i64 on), .lit (.string tx), .sl (ps.map wrow)] 0), (3, .ref 0 0 W.length)], [.row 1 (W.map wrow)], 0⟩ := by
    clear hcut
    intro W hWl hRW
    clear hRC2 hhs
    obtain ⟨M, hM⟩ : ∃ M, M = (tx.size + 7) / 8 := ⟨_, rfl⟩

    refine hK _ ?_; clear hK K
    refine awp_seq_k fun K hK => ?_
    (refine awp_reg_seq [1, 3, 4] fun K hK => ?_; (repeat' ((refine al_r rfl fun K' hK' => ?_); (repeat (simp only [go_sem, simprocAttr, List.length_map])); ((refine hK' _ _ ?_) <;> clear hK' K'))); all_goals (refine al_nil ?_; (simp only [go_sem, simprocAttr, List.length_map]); refine hK _ ?_; clear hK K))
    refine awp_block ?_
    -- loop 0 head [1, 3, 4]
    refine awp_loop_cut (fun m s => ∃ (j : Nat) (V : List Int) (T : ByteArray), j ≤ M ∧ m = M - j ∧ V.length = W.length + j ∧ V ++ textF tx (M - j) (8 * j) = W ++ textW tx ∧ T = tx.extract (8 * j) tx.size ∧ s = ⟨ofL [(1, .rd [.lit (.int .i64 oa), .lit (.int .i64 ok), .lit (.int .i64 on), .lit (.string tx), .sl (ps.map wrow)] 0), (3, .ref 0 0 V.length), (4, .p (.lit (.string T)))], [.row 1 (V.map wrow)], 0⟩) ⟨_, 0, W, tx, Nat.zero_le _, rfl, rfl, by rw [hM]; rfl, ext_zero tx, rfl⟩ ?_
    rintro m s ⟨j, V, T, hj, hmj, hVl, hVt, hT, rfl⟩
    have hte : (!(T.toList == (⟨#[]⟩ : ByteArray).toList)) = decide (8 * j < tx.size) := by rw [hT]; exact ext_empty tx (8 * j)
    have hTs : T.size = tx.size - 8 * j := by rw [hT]; exact ext_size tx (8 * j)

    refine awp_seq_k fun K hK => ?_
    (refine awp_reg_seq [1, 3, 4, 41] fun K hK => ?_; (repeat' ((refine al_r rfl fun K' hK' => ?_); (repeat (simp only [go_sem, simprocAttr, hte])); ((refine hK' _ _ ?_) <;> clear hK' K'))); all_goals (refine al_nil ?_; (simp only [go_sem, simprocAttr, hte]); refine hK _ ?_; clear hK K))
    refine awp_if (decide (8 * j < tx.size)) rfl (fun hc => ?_) (fun hc => ?_)
    · have hj3 : 8 * j < tx.size := by simpa using hc
      obtain ⟨n1, hn1⟩ : ∃ n1, n1 = min 8 (tx.size - 8 * j) := ⟨_, rfl⟩
      have hmn : (if ((T.size : Nat) : Int) < 8 then ((T.size : Nat) : Int) else 8) = (n1 : Int) := by rw [hTs]; split <;> omega
      have hk0 : IntKind.i64.wrap ((n1 : Int) - 1) = (n1 : Int) - 1 := Go.Ab.wrap_small (by omega) (by omega)
      have hk00 : (n1 : Int) - 1 = (n1 : Int) - 1 - ((0 : Nat) : Int) := by omega

      refine awp_skip ?_
      refine hK _ ?_; clear hK K
      refine awp_block ?_
      (refine awp_reg_seq [1, 3, 4, 5] fun K hK => ?_; (repeat' ((refine al_r rfl fun K' hK' => ?_); (repeat (simp only [go_sem, simprocAttr, List.length_map, hmn, hk0])); ((first | refine hK' _ _ ?_ | refine ⟨?_, hK' _ _ ?_⟩) <;> clear hK' K' <;> (first | (show alist _ _ _ _ _ _; skip) | (simp; done))))); all_goals (refine al_nil ?_; (simp only [go_sem, simprocAttr, List.length_map, hmn, hk0]); refine hK _ ?_; clear hK K))
      (refine awp_reg_seq [1, 3, 4, 5, 6] fun K hK => ?_; (repeat' ((refine al_r rfl fun K' hK' => ?_); (repeat (simp only [go_sem, simprocAttr, List.length_map, hmn, hk0])); ((refine hK' _ _ ?_) <;> clear hK' K'))); all_goals (refine al_nil ?_; (simp only [go_sem, simprocAttr, List.length_map, hmn, hk0]); refine hK _ ?_; clear hK K))
      refine awp_seq_k fun K hK => ?_
      (refine awp_reg_seq [1, 3, 4, 5, 6, 7] fun K hK => ?_; (repeat' ((refine al_r rfl fun K' hK' => ?_); (repeat (simp only [go_sem, simprocAttr, List.length_map, hmn, hk0])); ((refine hK' _ _ ?_) <;> clear hK' K'))); all_goals (refine al_nil ?_; (simp only [go_sem, simprocAttr, List.length_map, hmn, hk0]); refine hK _ ?_; clear hK K))
      refine awp_block ?_
      -- loop 1 head [1, 3, 4, 5, 6, 7]
      rw [hk00]
      refine awp_loop (fun m s => ∃ (q : Nat), q ≤ n1 ∧ m = n1 - q ∧ s = ⟨ofL [(1, .rd [.lit (.int .i64 oa), .lit (.int .i64 ok), .lit (.int .i64 on), .lit (.string tx), .sl (ps.map wrow)] 0), (3, .ref 0 0 V.length), (4, .p (.lit (.string T))), (5, iD n1), (6, wD ((hor tx (8 * j) (n1 - q) q : Nat) : Int)), (7, iD ((n1 : Int) - 1 - (q : Int)))], [.row 1 (V.map wrow)], 0⟩) ⟨_, 0, by omega, rfl, rfl⟩ ?_
      rintro m s ⟨q, hq, rfl, rfl⟩
      refine awp_seq_k fun K hK => ?_
      (refine awp_reg_seq [1, 3, 4, 5, 6, 7, 48] fun K hK => ?_; (repeat' ((refine al_r rfl fun K' hK' => ?_); (repeat (simp only [go_sem, simprocAttr, List.length_map, hmn, hk0])); ((refine hK' _ _ ?_) <;> clear hK' K'))); all_goals (refine al_nil ?_; (simp only [go_sem, simprocAttr, List.length_map, hmn, hk0]); refine hK _ ?_; clear hK K))
      refine awp_if (decide ((n1 : Int) - 1 - (q : Int) ≥ 0)) rfl (fun hc => ?_) (fun hc => ?_)
      · have hq2 : q < n1 := by simp at hc; omega
        obtain ⟨b, hb, hbv⟩ := ext_get (s := tx) (a := 8 * j) (k := n1 - 1 - q) (by omega)
        rw [← hT] at hb
        have hkk : (n1 : Int) - 1 - (q : Int) = ((n1 - 1 - q : Nat) : Int) := by omega
        have hk1 : IntKind.i64.wrap (((n1 - 1 - q : Nat) : Int) - 1) = (n1 : Int) - 1 - ((q + 1 : Nat) : Int) := by rw [Go.Ab.wrap_small (by omega) (by omega)]; omega
        have hnw : IntKind.u64.wrap (IntKind.u64.wrap (256 * ((hor tx (8 * j) (n1 - q) q : Nat) : Int)) + IntKind.u64.wrap (b.toNat : Int)) = ((hor tx (8 * j) (n1 - (q + 1)) (q + 1) : Nat) : Int) := by
          have h1 := hor_lt tx (8 * j) (q + 1) (n1 - (q + 1))
          have h2 : (256 : Nat) ^ (q + 1) ≤ 256 ^ 8 := Nat.pow_le_pow_right (by decide) (by omega)
          have h3 : (256 : Nat) ^ 8 = 18446744073709551616 := rfl
          have h4 : hor tx (8 * j) (n1 - (q + 1)) (q + 1) = byteV tx (8 * j + (n1 - (q + 1))) + 256 * hor tx (8 * j) (n1 - (q + 1) + 1) q := rfl
          rw [show n1 - (q + 1) + 1 = n1 - q by omega, show 8 * j + (n1 - (q + 1)) = 8 * j + (n1 - 1 - q) by omega] at h4
          rw [hbv, wrapU, wrapU, wrapU]
          omega

        refine awp_skip ?_
        refine hK _ ?_; clear hK K
        refine awp_seq_k fun K hK => ?_
        refine awp_block ?_
        (refine awp_reg_end [1, 3, 4, 5, 6, 7] fun K hK => ?_; (repeat' ((refine al_r rfl fun K' hK' => ?_); (repeat (simp only [go_sem, simprocAttr, List.length_map, hkk, hk1, hb, hnw, Int.toNat_natCast])); ((first | refine hK' _ _ ?_ | refine ⟨?_, hK' _ _ ?_⟩) <;> clear hK' K' <;> (first | (show alist _ _ _ _ _ _; skip) | (simp; done))))); all_goals (refine al_nil ?_; (simp only [go_sem, simprocAttr, List.length_map, hkk, hk1, hb, hnw, Int.toNat_natCast]); refine hK _ ?_; clear hK K))
        refine hK _ ?_; clear hK K
        (refine awp_reg_end [1, 3, 4, 5, 6, 7] fun K hK => ?_; (repeat' ((refine al_r rfl fun K' hK' => ?_); (repeat (simp only [go_sem, simprocAttr, List.length_map, hkk, hk1, hb, hnw, Int.toNat_natCast])); ((refine hK' _ _ ?_) <;> clear hK' K'))); all_goals (refine al_nil ?_; (simp only [go_sem, simprocAttr, List.length_map, hkk, hk1, hb, hnw, Int.toNat_natCast]); refine hK _ ?_; clear hK K))
        refine ⟨_, ?_, q + 1, hq2, rfl, ?_⟩
        · omega
        · (rfl)

      · have hq8 : q = n1 := by simp at hc; omega
        subst hq8
        rw [Nat.sub_self]
        have hwd : wordAt tx (8 * j) = ((hor tx (8 * j) 0 q : Nat) : Int) := word_hor tx (8 * j) q (by omega) (by omega)
        rw [← hwd]
        have htV : List.take V.length (V.map wrow) = V.map wrow := List.take_of_length_le (by simp)
        have hfV : (V.length + 1) * 8 ≤ 140737488355328 := by omega
        have hV2 : (V ++ [wordAt tx (8 * j)]) ++ textF tx (M - (j + 1)) (8 * (j + 1)) = W ++ textW tx := by
          rw [← hVt, show M - j = (M - (j + 1)) + 1 by omega]
          show _ = V ++ (wordAt tx (8 * j) :: textF tx (M - (j + 1)) (8 * j + 8))
          rw [List.append_assoc]; rfl
        have hT2 : tx.extract (8 * j + q) tx.size = tx.extract (8 * (j + 1)) tx.size := by
          by_cases h8 : q = 8
          · rw [h8]; congr 1
          · have key : ∀ a : Nat, tx.size ≤ a → tx.extract a tx.size = ⟨#[]⟩ := fun a ha => by
              have h := ext_size tx a
              generalize tx.extract a tx.size = t at h
              obtain ⟨d⟩ := t
              have : d = #[] := Array.eq_empty_of_size_eq_zero (show d.size = 0 by have h3 : (ByteArray.mk d).size = d.size := rfl; omega)
              rw [this]
            rw [key _ (by omega), key _ (by omega)]
        have hsl : T.extract q T.size = tx.extract (8 * j + q) tx.size := by rw [hT]; exact ext_ext tx (8 * j) q
        have hq0 : (0 : Int) ≤ (q : Int) := Int.natCast_nonneg q
        have hql : (q : Int) ≤ (T.size : Int) := by omega

        refine awp_exit ?_
        clear hK
        refine hK _ ?_; clear hK K
        refine awp_draw (by kernel_rfl) [1, 3, 4] fun K hK => ?_
        ((refine ah_r 0 rfl (by kernel_rfl) rfl fun K' hK' => ?_); (simp only [go_sem, simprocAttr, List.length_map, htV, hfV, hsl, hq0, hql, el9, Int.toNat_natCast, List.drop_zero]); ((refine hK' _ ?_); clear hK' K'))
        ((refine ah_r 1 rfl (by kernel_rfl) rfl fun K' hK' => ?_); (simp only [go_sem, simprocAttr, List.length_map, htV, hfV, hsl, hq0, hql, el9, Int.toNat_natCast, List.drop_zero]); ((refine hK' _ ?_); clear hK' K'))
        ((refine ah_r 4 rfl (by kernel_rfl) rfl fun K' hK' => ?_); (simp only [go_sem, simprocAttr, List.length_map, htV, hfV, hsl, hq0, hql, el9, Int.toNat_natCast, List.drop_zero]); ((refine hK' _ ?_); clear hK' K'))
        ((refine ah_r 5 rfl (by kernel_rfl) rfl fun K' hK' => ?_); (simp only [go_sem, simprocAttr, List.length_map, htV, hfV, hsl, hq0, hql, el9, Int.toNat_natCast, List.drop_zero]); ((refine hK' _ ?_); clear hK' K'))
        refine ah_two 2 6 rfl rfl (by kernel_rfl) ?_ ?_
        · ((repeat' ((refine al_r rfl fun K' hK' => ?_); (repeat (simp only [go_sem, simprocAttr, List.length_map, htV, hfV, hsl, hq0, hql, el9, Int.toNat_natCast, List.drop_zero])); ((refine hK' _ _ ?_) <;> clear hK' K'))); all_goals refine al_nil ?_)
          refine ah_two 3 6 rfl rfl (by kernel_rfl) ?_ ?_
          · ((repeat' ((refine al_r rfl fun K' hK' => ?_); (repeat (first | (simp only [go_sem, simprocAttr, List.length_map, htV, hfV, hsl, hq0, hql, el9, Int.toNat_natCast, List.drop_zero]) | refine AAp.grow ?_)); ((refine ⟨?_, ?_, hK' _ _ ?_⟩) <;> clear hK' K' <;> (first | (show alist _ _ _ _ _ _; skip) | (simp; done))))); all_goals refine al_nil ?_)
            ((refine ah_r 7 rfl (by kernel_rfl) rfl fun K' hK' => ?_); (simp only [go_sem, simprocAttr, List.length_map, htV, hfV, hsl, hq0, hql, el9, Int.toNat_natCast, List.drop_zero]); ((refine hK' _ ?_); clear hK' K'))
            (refine ah_one 6 rfl (by kernel_rfl) ?_; (repeat' ((refine al_r rfl fun K' hK' => ?_); (repeat (simp only [go_sem, simprocAttr, List.length_map, htV, hfV, hsl, hq0, hql, el9, Int.toNat_natCast, List.drop_zero])); ((refine hK' _ _ ?_) <;> clear hK' K'))); all_goals refine al_nil ?_)
            ((refine ah_r 8 rfl (by kernel_rfl) rfl fun K' hK' => ?_); (simp only [go_sem, simprocAttr, List.length_map, htV, hfV, hsl, hq0, hql, el9, Int.toNat_natCast, List.drop_zero]); ((refine hK' _ ?_); clear hK' K'))
            (refine ah_done (by kernel_rfl) ?_; (simp only [go_sem, simprocAttr, List.length_map, htV, hfV, hsl, hq0, hql, el9, Int.toNat_natCast, List.drop_zero]); refine hK _ ?_; clear hK K)
            refine ⟨M - (j + 1), by omega, [1, 3, 4], [2], by decide, (by intro q hq; exact absurd hq (Nat.not_lt_zero q)), j + 1, V ++ [wordAt tx (8 * j)], tx.extract (8 * j + q) tx.size, by omega, rfl, by simp; omega, hV2, hT2, ?_⟩
            simp only [go_sem, simprocAttr, List.length_map, htV, hfV, hsl, hq0, hql, el9, Int.toNat_natCast, List.drop_zero, List.map_append, List.length_append, List.length_cons, List.length_nil]
          · ((repeat' ((refine al_r rfl fun K' hK' => ?_); (repeat (simp only [go_sem, simprocAttr, List.length_map, htV, hfV, hsl, hq0, hql, el9, Int.toNat_natCast, List.drop_zero])); ((refine hK' _ _ ?_) <;> clear hK' K'))); all_goals refine al_nil ?_)
            (refine ah_one 3 rfl (by kernel_rfl) ?_; (repeat' ((refine al_r rfl fun K' hK' => ?_); (repeat (first | (simp only [go_sem, simprocAttr, List.length_map, htV, hfV, hsl, hq0, hql, el9, Int.toNat_natCast, List.drop_zero]) | refine AAp.grow ?_)); ((refine ⟨?_, ?_, hK' _ _ ?_⟩) <;> clear hK' K' <;> (first | (show alist _ _ _ _ _ _; skip) | (simp; done))))); all_goals refine al_nil ?_)
            ((refine ah_r 7 rfl (by kernel_rfl) rfl fun K' hK' => ?_); (simp only [go_sem, simprocAttr, List.length_map, htV, hfV, hsl, hq0, hql, el9, Int.toNat_natCast, List.drop_zero]); ((refine hK' _ ?_); clear hK' K'))
            ((refine ah_r 8 rfl (by kernel_rfl) rfl fun K' hK' => ?_); (simp only [go_sem, simprocAttr, List.length_map, htV, hfV, hsl, hq0, hql, el9, Int.toNat_natCast, List.drop_zero]); ((refine hK' _ ?_); clear hK' K'))
            (refine ah_done (by kernel_rfl) ?_; (simp only [go_sem, simprocAttr, List.length_map, htV, hfV, hsl, hq0, hql, el9, Int.toNat_natCast, List.drop_zero]); refine hK _ ?_; clear hK K)
            refine ⟨M - (j + 1), by omega, [1, 3, 4], [2], by decide, (by intro q hq; exact absurd hq (Nat.not_lt_zero q)), j + 1, V ++ [wordAt tx (8 * j)], tx.extract (8 * j + q) tx.size, by omega, rfl, by simp; omega, hV2, hT2, ?_⟩
            simp only [go_sem, simprocAttr, List.length_map, htV, hfV, hsl, hq0, hql, el9, Int.toNat_natCast, List.drop_zero, List.map_append, List.length_append, List.length_cons, List.length_nil]
        · ((repeat' ((refine al_r rfl fun K' hK' => ?_); (repeat (simp only [go_sem, simprocAttr, List.length_map, htV, hfV, hsl, hq0, hql, el9, Int.toNat_natCast, List.drop_zero])); ((refine hK' _ _ ?_) <;> clear hK' K'))); all_goals refine al_nil ?_)
          (refine ah_one 2 rfl (by kernel_rfl) ?_; (repeat' ((refine al_r rfl fun K' hK' => ?_); (repeat (simp only [go_sem, simprocAttr, List.length_map, htV, hfV, hsl, hq0, hql, el9, Int.toNat_natCast, List.drop_zero])); ((refine hK' _ _ ?_) <;> clear hK' K'))); all_goals refine al_nil ?_)
          (refine ah_one 3 rfl (by kernel_rfl) ?_; (repeat' ((refine al_r rfl fun K' hK' => ?_); (repeat (first | (simp only [go_sem, simprocAttr, List.length_map, htV, hfV, hsl, hq0, hql, el9, Int.toNat_natCast, List.drop_zero]) | refine AAp.grow ?_)); ((refine ⟨?_, ?_, hK' _ _ ?_⟩) <;> clear hK' K' <;> (first | (show alist _ _ _ _ _ _; skip) | (simp; done))))); all_goals refine al_nil ?_)
          ((refine ah_r 7 rfl (by kernel_rfl) rfl fun K' hK' => ?_); (simp only [go_sem, simprocAttr, List.length_map, htV, hfV, hsl, hq0, hql, el9, Int.toNat_natCast, List.drop_zero]); ((refine hK' _ ?_); clear hK' K'))
          ((refine ah_r 8 rfl (by kernel_rfl) rfl fun K' hK' => ?_); (simp only [go_sem, simprocAttr, List.length_map, htV, hfV, hsl, hq0, hql, el9, Int.toNat_natCast, List.drop_zero]); ((refine hK' _ ?_); clear hK' K'))
          (refine ah_done (by kernel_rfl) ?_; (simp only [go_sem, simprocAttr, List.length_map, htV, hfV, hsl, hq0, hql, el9, Int.toNat_natCast, List.drop_zero]); refine hK _ ?_; clear hK K)
          refine ⟨M - (j + 1), by omega, [1, 3, 4], [2], by decide, (by intro q hq; exact absurd hq (Nat.not_lt_zero q)), j + 1, V ++ [wordAt tx (8 * j)], tx.extract (8 * j + q) tx.size, by omega, rfl, by simp; omega, hV2, hT2, ?_⟩
          simp only [go_sem, simprocAttr, List.length_map, htV, hfV, hsl, hq0, hql, el9, Int.toNat_natCast, List.drop_zero, List.map_append, List.length_append, List.length_cons, List.length_nil]
        skip

    · have hjM : j = M := by simp at hc; omega
      subst hjM
      have hV2 : V = W ++ textW tx := by rw [← hVt, Nat.sub_self]; simp [textF]
      have htV : List.take V.length (V.map wrow) = V.map wrow := List.take_of_length_le (by simp)
      have htP : List.take ps.length (ps.map wrow) = ps.map wrow := List.take_of_length_le (by simp)
      have hfV : (V.length + ps.length) * 8 ≤ 140737488355328 := by omega
      have htA : List.take (V.length + ps.length) (V.map wrow ++ ps.map wrow) = (V ++ ps).map wrow := by
        rw [List.take_of_length_le (by simp), List.map_append]

      refine awp_exit ?_
      clear hK
      refine hK _ ?_; clear hK K
      (refine awp_reg_seq [2] fun K hK => ?_; (repeat' ((refine al_r rfl fun K' hK' => ?_); (repeat (first | (simp only [go_sem, simprocAttr, List.length_map, htV, htP, hfV, htA, List.drop_zero]) | refine AAp.grow ?_)); ((first | refine hK' _ _ ?_ | refine ⟨?_, ?_, hK' _ _ ?_⟩) <;> clear hK' K' <;> (first | (show alist _ _ _ _ _ _; skip) | (simp; done))))); all_goals (refine al_nil ?_; (simp only [go_sem, simprocAttr, List.length_map, htV, htP, hfV, htA, List.drop_zero]); refine hK _ ?_; clear hK K))
      refine awp_ret ?_; (refine hR _ _ (.inl rfl) rfl ?_)
      rw [hRW, ← hV2]
      simp only [go_sem, simprocAttr, List.length_map, htV, htP, hfV, htA, List.drop_zero, words]

  (refine awp_reg_tov [1, 3, 31] [(31, bD (ok == 1 || ok == 4))] (h := ?_) (k := ?_); · ((repeat' (first | ((first | refine al_r rfl fun K' hK' => ?_ | refine al_t rfl rfl fun K' hK' => ?_); (repeat (simp only [go_sem, simprocAttr, List.length_map, List.drop_zero])); ((refine hK' _ _ ?_) <;> clear hK' K')) | refine al_e rfl rfl ?_ | ((fail_if_success (refine al_t rfl rfl fun K' hK' => ?_)); refine al_s _ rfl rfl rfl (fun hb => ?_) (fun hb => ?_)))); all_goals (refine al_nil ?_; simp only [go_sem, simprocAttr, List.length_map, List.drop_zero, *, Bool.and_true, Bool.and_false, Bool.true_and, Bool.false_and, Bool.or_true, Bool.true_or, Bool.or_false, Bool.false_or, Bool.not_true, Bool.not_false, Bool.false_eq_true]))); intro K hK; (simp only [go_sem, simprocAttr, List.length_map, List.drop_zero]); refine hK _ ?_; clear hK K
  refine awp_if (ok == 1 || ok == 4) rfl (fun hc => ?_) (fun hc => ?_)
  · rw [if_pos hc] at hRC2
    have htB : List.take 1 [wrow H] = [wrow H] := rfl

    (refine awp_reg_end [1, 3] fun K hK => ?_; (repeat' ((refine al_r rfl fun K' hK' => ?_); (repeat (first | (simp only [go_sem, simprocAttr, List.length_map, List.drop_zero, htB]) | refine AAp.grow ?_)); ((first | refine hK' _ _ ?_ | refine ⟨?_, hK' _ _ ?_⟩) <;> clear hK' K' <;> (first | (show alist _ _ _ _ _ _; skip) | (simp; done))))); all_goals (refine al_nil ?_; (simp only [go_sem, simprocAttr, List.length_map, List.drop_zero, htB]); refine hK _ ?_; clear hK K))
    (first
      | (refine hcut _ [1, 3] [2] (by decide) (by intro q hq; exact absurd hq (Nat.not_lt_zero q)) ?_; have hk := key ([H] ++ [IntKind.u64.wrap on]) (by simp) hRC2; simp only [List.length_append, List.length_cons, List.length_nil, List.map_append, List.map_cons, List.map_nil, Nat.zero_add] at hk; simp only [go_sem, simprocAttr, List.length_map, List.drop_zero, htB]; exact hk)
      | (refine hcut _ [1, 3] [0] (by decide) (by intro q hq; exact absurd hq (Nat.not_lt_zero q)) ?_; have hk := key ([H] ++ []) (by simp) hRC2; simp only [List.append_nil, List.length_append, List.length_cons, List.length_nil, List.map_append, List.map_cons, List.map_nil, Nat.zero_add] at hk; simp only [go_sem, simprocAttr, List.length_map, List.drop_zero, htB]; exact hk))
  · rw [if_neg (by rw [hc]; exact Bool.false_ne_true)] at hRC2

    refine awp_skip ?_
    (first
      | (refine hcut _ [1, 3] [2] (by decide) (by intro q hq; exact absurd hq (Nat.not_lt_zero q)) ?_; have hk := key ([H] ++ [IntKind.u64.wrap on]) (by simp) hRC2; simp only [List.length_append, List.length_cons, List.length_nil, List.map_append, List.map_cons, List.map_nil, Nat.zero_add] at hk; simp only [go_sem, simprocAttr, List.length_map, List.drop_zero]; exact hk)
      | (refine hcut _ [1, 3] [0] (by decide) (by intro q hq; exact absurd hq (Nat.not_lt_zero q)) ?_; have hk := key ([H] ++ []) (by simp) hRC2; simp only [List.append_nil, List.length_append, List.length_cons, List.length_nil, List.map_append, List.map_cons, List.map_nil, Nat.zero_add] at hk; simp only [go_sem, simprocAttr, List.length_map, List.drop_zero]; exact hk))
end Go.Proofs.Ytagphggcdmjlpaa.P

/- The object at a place, as the reference finds it: a contract. -/
namespace Go.Proofs.Ytagphggcdmjlpaa.P
open Go.Ab Go.Proofs.Ytagphggcdmjlpaa.T

theorem ext_push (s : ByteArray) (i : Nat) (h : i < s.size) : s.extract 0 i ++ pushB [(byteV s i : Int)] = s.extract 0 (i + 1) := by
  obtain ⟨b, hb⟩ := get_byte h
  have e1 : pushB [(byteV s i : Int)] = ⟨#[b]⟩ := by
    unfold pushB byteV
    rw [hb]
    show ByteArray.push _ _ = _
    simp
    rfl
  rw [e1]
  rw [getElem?_pos s i h] at hb
  have hb := Option.some.inj hb
  apply ByteArray.ext
  rw [ByteArray.data_append, ByteArray.data_extract, ByteArray.data_extract]
  have hsz : s.data.size = s.size := rfl
  apply Array.ext'
  simp only [Array.toList_append, Array.toList_extract]
  have hg : s.data.toList[i]? = some b := by
    rw [Array.getElem?_toList, Array.getElem?_eq_getElem (by omega)]
    exact congrArg some hb
  simp only [List.extract_eq_take_drop, List.drop_zero, Nat.sub_zero]
  rw [take_succ_of hg]

theorem ext_nil (s : ByteArray) : s.extract 0 0 = ByteArray.empty := by
  have h : (s.extract 0 0).size = 0 := by rw [ByteArray.size_extract]; omega
  generalize s.extract 0 0 = t at h
  obtain ⟨d⟩ := t
  have : d = #[] := Array.eq_empty_of_size_eq_zero h
  rw [this]; rfl

theorem enc_at {h : List Int} {n : Nat} {o : Obj} (henc : encW o = (h.drop n).take (encW o).length) : ∀ i, i < (encW o).length → h[n + i]? = (encW o)[i]? := fun i hi => by
  conv => rhs; rw [henc]
  rw [List.getElem?_take, if_pos hi, List.getElem?_drop]


set_option maxRecDepth 100000 in
theorem objectAt (h : List Int) (n : Nat) (o : Obj) (hlen : h.length ≤ 4000) (hr : rightS o = true) (hnum : NumOk o.num) (hoa : o.at_ = n) (hnl : n + (encW o).length ≤ h.length) (henc : encW o = (h.drop n).take (encW o).length) :
    ACallP Try.prog 61 [words h, iD n] (.tup [objD o, bD true]) := by
  have hge := enc_at henc
  have hois := objectIs hr
  have how := objectWords hr
  have hel := enc_len o
  obtain ⟨kk, hk, hk1, hk5⟩ := right_kind hr
  obtain ⟨hs64, hp400⟩ := right_small hr
  have hhv := head_val hr hk hk5
  have hnz : (o.kind == 1 || o.kind == 4) = false → o.num = 0 := fun hc => by
    have h0 := hr
    unfold rightS at h0
    simp only [Bool.and_eq_true, Bool.not_eq_true', Bool.and_eq_false_iff, Bool.or_eq_true] at h0
    obtain ⟨_, _, _, h4, _⟩ := h0
    rw [Bool.or_eq_false_iff, beq_eq_false_iff_ne, beq_eq_false_iff_ne] at hc
    rcases h4 with h4 | h4
    · rcases h4 with h4 | h4
      · have : o.kind = 1 := by simpa using h4
        exact absurd this hc.1
      · have : o.kind = 4 := by simpa using h4
        exact absurd this hc.2
    · simpa using h4
  have henc2 : encW o = headS o :: ((if (o.kind == 1 || o.kind == 4) = true then [IntKind.u64.wrap o.num] else []) ++ (textW o.text ++ o.parts)) := rfl
  have hdrop : h.drop n = encW o ++ h.drop (n + (encW o).length) := by
    conv => lhs; rw [← List.take_append_drop (encW o).length (h.drop n)]
    rw [← henc, List.drop_drop]
  have htl : (textW o.text).length = (o.text.size + 7) / 8 := textF_len _ _ _
  have hel9 : elO Try.prog 9 = none := by kernel_rfl
  obtain ⟨E, hE⟩ : ∃ E, E = encW o := ⟨_, rfl⟩
  rw [← hE] at hge how hel henc2 hdrop hnl
  clear henc hr
  have hh0 := hge 0 (by rw [henc2]; simp)
  rw [Nat.add_zero, henc2] at hh0
  have hh0 : h[n]? = some (headS o) := hh0
  generalize headS o = H at *
  obtain ⟨oa, ok, on, tx, ps⟩ := o
  simp only at hoa hnum hois hel hk hs64 hp400 hhv hnz henc2 htl
  clear hE
  subst hoa hk
  have hn0 : (0 : Int) ≤ (n : Int) := Int.natCast_nonneg n
  have hE1 : 1 ≤ E.length := by rw [henc2]; simp
  have hnl1 : (n : Int) < (h.length : Int) := by omega
  have hlw : IntKind.i64.wrap ((h.length : Int) - 1) = (h.length : Int) - 1 := Go.Ab.wrap_small (by omega) (by omega)
  have hin : ACallP Try.prog 86 [iD n, iD 0, iD ((h.length : Int) - 1)] (bD true) := by
    have := inR n 0 ((h.length : Int) - 1)
    rw [decide_eq_true (show (n : Int) ≥ 0 by omega), decide_eq_true (show (n : Int) ≤ (h.length : Int) - 1 by omega)] at this
    exact this
  have hH0 : 0 ≤ H := by rw [hhv]; exact Int.natCast_nonneg _
  have q32 : IntKind.u64.wrap (H.tdiv 4294967296) = 0 := by rw [Int.tdiv_eq_ediv_of_nonneg hH0, wrapU, hhv]; omega
  have m256 : IntKind.i64.wrap (H.tmod 256) = (kk : Int) := by rw [Int.tmod_eq_emod_of_nonneg hH0, wrapI, hhv]; omega
  have e256 : IntKind.u64.wrap (H.tdiv 256) = H / 256 := by rw [Int.tdiv_eq_ediv_of_nonneg hH0, wrapU, hhv]; omega
  have hsz : IntKind.i64.wrap ((IntKind.u64.wrap (H.tdiv 256)).tmod 4096) = (tx.size : Int) := by rw [e256, Int.tmod_eq_emod_of_nonneg (by omega), wrapI, hhv]; omega
  have hpl : IntKind.i64.wrap (IntKind.u64.wrap (H.tdiv 1048576)) = (ps.length : Int) := by rw [Int.tdiv_eq_ediv_of_nonneg hH0, wrapU, wrapI, hhv]; omega
  have hn1 : IntKind.i64.wrap ((n : Int) + 1) = ((n + 1 : Nat) : Int) := by rw [Go.Ab.wrap_small (by omega) (by omega)]; rfl
  have hn10 : (0 : Int) ≤ ((n + 1 : Nat) : Int) := Int.natCast_nonneg _
  have hn1l : ((n + 1 : Nat) : Int) ≤ (h.length : Int) := by omega
  obtain ⟨L1, hL1⟩ : ∃ L1, L1 = h.drop (n + 1) := ⟨_, rfl⟩
  have hd1 : List.drop (n + 1) (List.take h.length (h.map wrow)) = L1.map wrow := by rw [List.take_of_length_le (by simp), hL1, List.map_drop]
  have hL1e : L1 = (if ((kk : Int) == 1 || (kk : Int) == 4) = true then [IntKind.u64.wrap on] else []) ++ (textW tx ++ (ps ++ h.drop (n + E.length))) := by
    have : h.drop (n + 1) = (h.drop n).drop 1 := by rw [List.drop_drop]
    rw [hL1, this, hdrop, henc2]
    simp
  obtain ⟨Z, hZ⟩ : ∃ Z, Z = h.drop (n + E.length) := ⟨_, rfl⟩
  rw [← hZ] at hL1e
  have hL1l : L1.length ≤ 4000 := by rw [hL1]; simp; omega
  clear hdrop hZ hL1 hhv e256 hH0
  have h0gt : decide ((0 : Int) > 0) = false := rfl
  refine acallp_fnv [.cell 4 30, .tmp 5] Try.func61 rfl rfl Try.ntmps61 (by simp) fun R hR => ?_
  (refine awp_reg_seq [0, 1, 4] fun K hK => ?_; (repeat' ((refine al_r rfl fun K' hK' => ?_); (repeat (simp only [go_sem, simprocAttr, List.length_map])); ((refine hK' _ _ ?_) <;> clear hK' K'))); all_goals (refine al_nil ?_; (simp only [go_sem, simprocAttr, List.length_map]); refine hK _ ?_; clear hK K))
  refine awp_seq_k fun K hK => ?_

  (refine awp_reg_seq [0, 1, 4, 28] fun K hK => ?_; (repeat' ((first | refine al_r rfl fun K' hK' => ?_ | refine al_t rfl rfl fun K' hK' => ?_); (repeat (simp only [go_sem, simprocAttr, List.length_map, hlw, hh0, hn0, hnl1, q32, h0gt, List.getElem?_map, Option.map_some, Int.toNat_natCast])); (first | ((first | refine hK' _ _ ?_ | refine ⟨?_, hK' _ _ ?_⟩) <;> clear hK' K' <;> (first | (show alist _ _ _ _ _ _; skip) | (intro s hs; cases hs; done))) | ((show AC _ _ (D.fn 86 _) _ _); refine acall_p (f := 86) (e := rfl) (hr := rfl) (k := hK' _ _ ?_) (hc := Try.call86) (h := hin); clear hK' K')))); all_goals (refine al_nil ?_; (simp only [go_sem, simprocAttr, List.length_map, hlw, hh0, hn0, hnl1, q32, h0gt, List.getElem?_map, Option.map_some, Int.toNat_natCast]); refine hK _ ?_; clear hK K))
  refine awp_if (_) rfl (fun hc => ?_) (fun hc => ?_)
  · cases hc
  · refine awp_skip ?_
    refine hK _ ?_; clear hK K

    (refine awp_reg_seq [0, 1, 4, 6] fun K hK => ?_; (repeat' ((first | refine al_r rfl fun K' hK' => ?_ | refine al_d rfl fun K' hK' => ?_); (repeat (first | (simp only [go_sem, simprocAttr, List.length_map, hh0, hn0, hnl1, m256, hsz, hpl, List.getElem?_map, Option.map_some, Int.toNat_natCast]) | refine AS.mk ?_)); ((first | refine hK' _ _ ?_ | refine ⟨?_, hK' _ _ ?_⟩) <;> clear hK' K' <;> (first | (show alist _ _ _ _ _ _; skip) | (simp; done))))); all_goals (refine al_nil ?_; (simp only [go_sem, simprocAttr, List.length_map, hh0, hn0, hnl1, m256, hsz, hpl, List.getElem?_map, Option.map_some, Int.toNat_natCast]); refine hK _ ?_; clear hK K))
    refine awp_draw_seq (by kernel_rfl) [0, 1, 4, 6, 7, 8] fun K hK => ?_
    ((refine ah_r 0 rfl (by kernel_rfl) rfl fun K' hK' => ?_); (simp only [go_sem, simprocAttr, List.length_map, hh0, hn0, hnl1, m256, hsz, hpl, List.getElem?_map, Option.map_some, Int.toNat_natCast]); ((refine hK' _ ?_); clear hK' K'))
    ((refine ah_r 1 rfl (by kernel_rfl) rfl fun K' hK' => ?_); (simp only [go_sem, simprocAttr, List.length_map, hh0, hn0, hnl1, m256, hsz, hpl, List.getElem?_map, Option.map_some, Int.toNat_natCast]); ((refine hK' _ ?_); clear hK' K'))
    ((refine ah_r 2 rfl (by kernel_rfl) rfl fun K' hK' => ?_); (simp only [go_sem, simprocAttr, List.length_map, hh0, hn0, hnl1, m256, hsz, hpl, List.getElem?_map, Option.map_some, Int.toNat_natCast]); ((refine hK' _ ?_); clear hK' K'))
    ((refine ah_r 3 rfl (by kernel_rfl) rfl fun K' hK' => ?_); (simp only [go_sem, simprocAttr, List.length_map, hh0, hn0, hnl1, m256, hsz, hpl, List.getElem?_map, Option.map_some, Int.toNat_natCast]); ((refine hK' _ ?_); clear hK' K'))
    ((refine ah_r 4 rfl (by kernel_rfl) rfl fun K' hK' => ?_); (simp only [go_sem, simprocAttr, List.length_map, hh0, hn0, hnl1, m256, hsz, hpl, List.getElem?_map, Option.map_some, Int.toNat_natCast]); ((refine hK' _ ?_); clear hK' K'))
    ((refine ah_r 5 rfl (by kernel_rfl) rfl fun K' hK' => ?_); (simp only [go_sem, simprocAttr, List.length_map, hh0, hn0, hnl1, m256, hsz, hpl, List.getElem?_map, Option.map_some, Int.toNat_natCast]); ((refine hK' _ ?_); clear hK' K'))
    ((refine ah_r 6 rfl (by kernel_rfl) rfl fun K' hK' => ?_); (simp only [go_sem, simprocAttr, List.length_map, hh0, hn0, hnl1, m256, hsz, hpl, List.getElem?_map, Option.map_some, Int.toNat_natCast]); ((refine hK' _ ?_); clear hK' K'))
    ((refine ah_r 7 rfl (by kernel_rfl) rfl fun K' hK' => ?_); (simp only [go_sem, simprocAttr, List.length_map, hh0, hn0, hnl1, m256, hsz, hpl, List.getElem?_map, Option.map_some, Int.toNat_natCast]); ((refine hK' _ ?_); clear hK' K'))
    ((refine ah_r 8 rfl (by kernel_rfl) rfl fun K' hK' => ?_); (simp only [go_sem, simprocAttr, List.length_map, hh0, hn0, hnl1, m256, hsz, hpl, List.getElem?_map, Option.map_some, Int.toNat_natCast]); ((refine hK' _ ?_); clear hK' K'))
    ((refine ah_r 9 rfl (by kernel_rfl) rfl fun K' hK' => ?_); (simp only [go_sem, simprocAttr, List.length_map, hh0, hn0, hnl1, m256, hsz, hpl, List.getElem?_map, Option.map_some, Int.toNat_natCast]); ((refine hK' _ ?_); clear hK' K'))
    ((refine ah_r 10 rfl (by kernel_rfl) rfl fun K' hK' => ?_); (simp only [go_sem, simprocAttr, List.length_map, hh0, hn0, hnl1, m256, hsz, hpl, List.getElem?_map, Option.map_some, Int.toNat_natCast]); ((refine hK' _ ?_); clear hK' K'))
    ((refine ah_r 11 rfl (by kernel_rfl) rfl fun K' hK' => ?_); (simp only [go_sem, simprocAttr, List.length_map, hh0, hn0, hnl1, m256, hsz, hpl, List.getElem?_map, Option.map_some, Int.toNat_natCast]); ((refine hK' _ ?_); clear hK' K'))
    ((refine ah_r 12 rfl (by kernel_rfl) rfl fun K' hK' => ?_); (simp only [go_sem, simprocAttr, List.length_map, hh0, hn0, hnl1, m256, hsz, hpl, List.getElem?_map, Option.map_some, Int.toNat_natCast]); ((refine hK' _ ?_); clear hK' K'))
    ((refine ah_r 13 rfl (by kernel_rfl) rfl fun K' hK' => ?_); (simp only [go_sem, simprocAttr, List.length_map, hh0, hn0, hnl1, m256, hsz, hpl, List.getElem?_map, Option.map_some, Int.toNat_natCast]); ((refine hK' _ ?_); clear hK' K'))
    ((refine ah_r 14 rfl (by kernel_rfl) rfl fun K' hK' => ?_); (simp only [go_sem, simprocAttr, List.length_map, hh0, hn0, hnl1, m256, hsz, hpl, List.getElem?_map, Option.map_some, Int.toNat_natCast]); ((refine hK' _ ?_); clear hK' K'))
    (refine ah_done (by kernel_rfl) ?_; (simp only [go_sem, simprocAttr, List.length_map, hh0, hn0, hnl1, m256, hsz, hpl, List.getElem?_map, Option.map_some, Int.toNat_natCast]); refine hK _ ?_; clear hK K)

    (refine awp_reg_seq [0, 1, 4, 6, 7, 8, 9] fun K hK => ?_; (repeat' ((refine al_r rfl fun K' hK' => ?_); (repeat (simp only [go_sem, simprocAttr, List.length_map, hn1, hn10, hn1l, hd1, Int.toNat_natCast])); ((first | refine hK' _ _ ?_ | refine ⟨?_, ?_, hK' _ _ ?_⟩) <;> clear hK' K' <;> (first | (show alist _ _ _ _ _ _; skip) | (simp; done))))); all_goals (refine al_nil ?_; (simp only [go_sem, simprocAttr, List.length_map, hn1, hn10, hn1l, hd1, Int.toNat_natCast]); refine hK _ ?_; clear hK K))
    refine awp_seq_kc fun K hK hcut => ?_
    have key : ∀ L2 : List Int, L2 = textW tx ++ (ps ++ Z) → K ⟨ofL [(0, words h), (1, iD n), (4, .ptr 0 0 0), (6, .ptr 1 0 0), (7, iD tx.size), (8, iD ps.length), (9, words L2)], [.box [iD 0, iD 0, iD 0, .p (.lit (.string ByteArray.empty)), .nil], .box [iD n, iD kk, iD on, .p (.lit (.string ByteArray.empty)), .nil]], 0⟩ := by
      clear hcut
      intro L2 hL2
      clear hL1e
      obtain ⟨M, hM⟩ : ∃ M, M = (tx.size + 7) / 8 := ⟨_, rfl⟩
      have h7a : IntKind.i64.wrap ((tx.size : Int) + 7) = ((tx.size + 7 : Nat) : Int) := by rw [Go.Ab.wrap_small (by omega) (by omega)]; rfl
      have h7b : IntKind.i64.wrap (((tx.size + 7 : Nat) : Int).tdiv 8) = (M : Int) := by rw [Int.tdiv_eq_ediv_of_nonneg (by omega), Go.Ab.wrap_small (by omega) (by omega)]; omega
      have hL2l : M + ps.length ≤ L2.length := by rw [hL2]; simp; omega
      have hmp : IntKind.i64.wrap ((M : Int) + (ps.length : Int)) = ((M + ps.length : Nat) : Int) := by rw [Go.Ab.wrap_small (by omega) (by omega)]; rfl
      have hlt82 : decide ((L2.length : Int) < ((M + ps.length : Nat) : Int)) = false := decide_eq_false (by omega)

      refine hK _ ?_; clear hK K
      (refine awp_reg_seq [0, 1, 4, 6, 7, 8, 9, 10] fun K hK => ?_; (repeat' ((refine al_r rfl fun K' hK' => ?_); (repeat (simp only [go_sem, simprocAttr, List.length_map, h7a, h7b, hmp, hlt82])); ((refine hK' _ _ ?_) <;> clear hK' K'))); all_goals (refine al_nil ?_; (simp only [go_sem, simprocAttr, List.length_map, h7a, h7b, hmp, hlt82]); refine hK _ ?_; clear hK K))
      refine awp_seq_k fun K hK => ?_
      (refine awp_reg_seq [0, 1, 4, 6, 7, 8, 9, 10, 82] fun K hK => ?_; (repeat' ((refine al_r rfl fun K' hK' => ?_); (repeat (simp only [go_sem, simprocAttr, List.length_map, h7a, h7b, hmp, hlt82])); ((first | refine hK' _ _ ?_ | refine ⟨?_, hK' _ _ ?_⟩) <;> clear hK' K' <;> (first | (show alist _ _ _ _ _ _; skip) | (intro s hs; cases hs; done))))); all_goals (refine al_nil ?_; (simp only [go_sem, simprocAttr, List.length_map, h7a, h7b, hmp, hlt82]); refine hK _ ?_; clear hK K))
      refine awp_if (_) rfl (fun hc => ?_) (fun hc => ?_)
      · cases hc
      · refine awp_skip ?_
        refine hK _ ?_; clear hK K
        refine awp_seq_k fun K hK => ?_
        (refine awp_reg_seq [0, 1, 4, 6, 8, 9, 10, 84, 85] fun K hK => ?_; (repeat' ((refine al_r rfl fun K' hK' => ?_); (repeat (simp only [go_sem, simprocAttr, List.length_map, h7a, h7b, hmp, hlt82])); ((refine hK' _ _ ?_) <;> clear hK' K'))); all_goals (refine al_nil ?_; (simp only [go_sem, simprocAttr, List.length_map, h7a, h7b, hmp, hlt82]); refine hK _ ?_; clear hK K))
        refine awp_block ?_
        -- loop 0 head [0, 1, 4, 6, 8, 9, 10, 84, 85]
        refine awp_loop_cut (fun m s => ∃ i : Nat, i ≤ tx.size ∧ m = tx.size - i ∧ s = ⟨ofL [(0, words h), (1, iD n), (4, .ptr 0 0 0), (6, .ptr 1 0 0), (8, iD ps.length), (9, words L2), (10, iD M), (84, iD tx.size), (85, iD i)], [.box [iD 0, iD 0, iD 0, .p (.lit (.string ByteArray.empty)), .nil], .box [iD n, iD kk, iD on, .p (.lit (.string (tx.extract 0 i))), .nil]], 0⟩) ⟨_, 0, Nat.zero_le _, rfl, by rw [ext_nil]; rfl⟩ ?_
        rintro m s ⟨i, hi, hmi, rfl⟩
        (refine awp_reg_seq [0, 1, 4, 6, 8, 9, 10, 84, 85, 86] fun K hK => ?_; (repeat' ((refine al_r rfl fun K' hK' => ?_); (repeat (simp only [go_sem, simprocAttr, List.length_map, h7a, h7b, hmp, hlt82])); ((refine hK' _ _ ?_) <;> clear hK' K'))); all_goals (refine al_nil ?_; (simp only [go_sem, simprocAttr, List.length_map, h7a, h7b, hmp, hlt82]); refine hK _ ?_; clear hK K))
        refine awp_seq_k fun K hK => ?_
        refine awp_if (decide ((i : Int) < (tx.size : Int))) rfl (fun hc => ?_) (fun hc => ?_)
        · refine awp_skip ?_
          refine hK _ ?_; clear hK K
          refine awp_seq_k fun K hK => ?_
          refine awp_block ?_
          have hi2 : i < tx.size := by simpa using hc
          have hq : i / 8 < M := by omega
          have hgw : L2[i / 8]? = some (wordAt tx (8 * (i / 8))) := by
            rw [hL2, List.getElem?_append_left (by rw [htl]; omega)]
            unfold textW
            rw [textF_get tx _ 0 _ (by omega), Nat.zero_add]
          have hwv := word_hor tx (8 * (i / 8)) 8 (by omega) (.inr rfl)
          have hq0 : (0 : Int) ≤ ((i / 8 : Nat) : Int) := Int.natCast_nonneg _
          have hql : ((i / 8 : Nat) : Int) < (L2.length : Int) := by omega
          have hix : IntKind.i64.wrap ((i : Int) + 1) = ((i + 1 : Nat) : Int) := by rw [Go.Ab.wrap_small (by omega) (by omega)]; rfl
          have hq8 : IntKind.i64.wrap ((i : Int).tdiv 8) = ((i / 8 : Nat) : Int) := by
            rw [Int.tdiv_eq_ediv_of_nonneg (by omega), Go.Ab.wrap_small (by omega) (by omega)]; omega
          have hrm : (i : Int).tmod 8 = ((i % 8 : Nat) : Int) := by rw [Int.tmod_eq_emod_of_nonneg (by omega)]; omega
          rw [hwv] at hgw

          (refine awp_reg_seq [0, 1, 4, 6, 8, 9, 10, 11, 84, 85] fun K hK => ?_; (repeat' ((refine al_r rfl fun K' hK' => ?_); (repeat (simp only [go_sem, simprocAttr, List.length_map, hgw, hq0, hql, hix, hq8, hrm, List.getElem?_map, Option.map_some, Int.toNat_natCast])); ((refine hK' _ _ ?_) <;> clear hK' K'))); all_goals (refine al_nil ?_; (simp only [go_sem, simprocAttr, List.length_map, hgw, hq0, hql, hix, hq8, hrm, List.getElem?_map, Option.map_some, Int.toNat_natCast]); refine hK _ ?_; clear hK K))
          (refine awp_reg_seq [0, 1, 4, 6, 8, 9, 10, 11, 12, 84, 85] fun K hK => ?_; (repeat' ((refine al_r rfl fun K' hK' => ?_); (repeat (simp only [go_sem, simprocAttr, List.length_map, hgw, hq0, hql, hix, hq8, hrm, List.getElem?_map, Option.map_some, Int.toNat_natCast])); ((refine hK' _ _ ?_) <;> clear hK' K'))); all_goals (refine al_nil ?_; (simp only [go_sem, simprocAttr, List.length_map, hgw, hq0, hql, hix, hq8, hrm, List.getElem?_map, Option.map_some, Int.toNat_natCast]); refine hK _ ?_; clear hK K))
          refine awp_seq_k fun K hK => ?_
          (refine awp_reg_seq [0, 1, 4, 6, 8, 9, 10, 12, 84, 85, 94, 95] fun K hK => ?_; (repeat' ((refine al_r rfl fun K' hK' => ?_); (repeat (simp only [go_sem, simprocAttr, List.length_map, hgw, hq0, hql, hix, hq8, hrm, List.getElem?_map, Option.map_some, Int.toNat_natCast])); ((refine hK' _ _ ?_) <;> clear hK' K'))); all_goals (refine al_nil ?_; (simp only [go_sem, simprocAttr, List.length_map, hgw, hq0, hql, hix, hq8, hrm, List.getElem?_map, Option.map_some, Int.toNat_natCast]); refine hK _ ?_; clear hK K))
          refine awp_block ?_
          -- loop 1 head [0, 1, 4, 6, 8, 9, 10, 12, 84, 85, 94, 95]
          refine awp_loop (fun m s => ∃ q : Nat, q ≤ i % 8 ∧ m = i % 8 - q ∧ s = ⟨ofL [(0, words h), (1, iD n), (4, .ptr 0 0 0), (6, .ptr 1 0 0), (8, iD ps.length), (9, words L2), (10, iD M), (12, wD ((hor tx (8 * (i / 8)) q (8 - q) : Nat) : Int)), (84, iD tx.size), (85, iD i), (94, iD ((i % 8 : Nat) : Int)), (95, iD q)], [.box [iD 0, iD 0, iD 0, .p (.lit (.string ByteArray.empty)), .nil], .box [iD n, iD kk, iD on, .p (.lit (.string (tx.extract 0 i))), .nil]], 0⟩) ⟨_, 0, Nat.zero_le _, rfl, rfl⟩ ?_
          rintro m s ⟨q, hq2, rfl, rfl⟩
          (refine awp_reg_seq [0, 1, 4, 6, 8, 9, 10, 12, 84, 85, 94, 95, 96] fun K hK => ?_; (repeat' ((refine al_r rfl fun K' hK' => ?_); (repeat (simp only [go_sem, simprocAttr, List.length_map, hgw, hq0, hql, hix, hq8, hrm, List.getElem?_map, Option.map_some, Int.toNat_natCast])); ((refine hK' _ _ ?_) <;> clear hK' K'))); all_goals (refine al_nil ?_; (simp only [go_sem, simprocAttr, List.length_map, hgw, hq0, hql, hix, hq8, hrm, List.getElem?_map, Option.map_some, Int.toNat_natCast]); refine hK _ ?_; clear hK K))
          refine awp_seq_k fun K hK => ?_
          refine awp_if (decide ((q : Int) < ((i % 8 : Nat) : Int))) rfl (fun hc => ?_) (fun hc => ?_)
          · have hq3 : q < i % 8 := by simp at hc; omega
            have hqx : IntKind.i64.wrap ((q : Int) + 1) = ((q + 1 : Nat) : Int) := by rw [Go.Ab.wrap_small (by omega) (by omega)]; rfl
            have hdv : IntKind.u64.wrap (((hor tx (8 * (i / 8)) q (8 - q) : Nat) : Int).tdiv 256) = ((hor tx (8 * (i / 8)) (q + 1) (8 - (q + 1)) : Nat) : Int) := by
              have h1 := hor_lt tx (8 * (i / 8)) (8 - (q + 1)) (q + 1)
              have h2 : (256 : Nat) ^ (8 - (q + 1)) ≤ 256 ^ 8 := Nat.pow_le_pow_right (by decide) (by omega)
              have h3 : (256 : Nat) ^ 8 = 18446744073709551616 := rfl
              have h5 := byteV_lt tx (8 * (i / 8) + q)
              have h4 : hor tx (8 * (i / 8)) q ((8 - (q + 1)) + 1) = byteV tx (8 * (i / 8) + q) + 256 * hor tx (8 * (i / 8)) (q + 1) (8 - (q + 1)) := rfl
              rw [show 8 - q = 8 - (q + 1) + 1 by omega, h4, Int.tdiv_eq_ediv_of_nonneg (Int.natCast_nonneg _), wrapU]
              omega

            refine awp_skip ?_
            refine hK _ ?_; clear hK K
            refine awp_seq_k fun K hK => ?_
            refine awp_block ?_
            (refine awp_reg_end [0, 1, 4, 6, 8, 9, 10, 12, 84, 85, 94, 95] fun K hK => ?_; (repeat' ((refine al_r rfl fun K' hK' => ?_); (repeat (simp only [go_sem, simprocAttr, List.length_map, hqx, hdv])); ((refine hK' _ _ ?_) <;> clear hK' K'))); all_goals (refine al_nil ?_; (simp only [go_sem, simprocAttr, List.length_map, hqx, hdv]); refine hK _ ?_; clear hK K))
            refine hK _ ?_; clear hK K
            (refine awp_reg_end [0, 1, 4, 6, 8, 9, 10, 12, 84, 85, 94, 95] fun K hK => ?_; (repeat' ((refine al_r rfl fun K' hK' => ?_); (repeat (simp only [go_sem, simprocAttr, List.length_map, hqx, hdv])); ((refine hK' _ _ ?_) <;> clear hK' K'))); all_goals (refine al_nil ?_; (simp only [go_sem, simprocAttr, List.length_map, hqx, hdv]); refine hK _ ?_; clear hK K))
            refine ⟨_, ?_, q + 1, hq3, rfl, ?_⟩
            · omega
            · (simp only [go_sem, simprocAttr, List.length_map, hqx, hdv])
          · have hqi : q = i % 8 := by simp at hc; omega
            subst hqi
            have hby : IntKind.u8.wrap (((hor tx (8 * (i / 8)) (i % 8) (8 - i % 8) : Nat) : Int).tmod 256) = (byteV tx i : Int) := by
              have h5 := byteV_lt tx (8 * (i / 8) + i % 8)
              have h4 : hor tx (8 * (i / 8)) (i % 8) ((7 - i % 8) + 1) = byteV tx (8 * (i / 8) + i % 8) + 256 * hor tx (8 * (i / 8)) (i % 8 + 1) (7 - i % 8) := rfl
              rw [show 8 - i % 8 = 7 - i % 8 + 1 by omega, h4, show 8 * (i / 8) + i % 8 = i by omega, Int.tmod_eq_emod_of_nonneg (Int.natCast_nonneg _)]
              rw [show 8 * (i / 8) + i % 8 = i by omega] at h5
              simp only [IntKind.wrap, IntKind.bits, IntKind.signed]
              simp
              omega
            have hpush := ext_push tx i hi2
            have hcat : (((tx.extract 0 i).size + (pushB [(byteV tx i : Int)]).size : Nat) : Int) ≤ 9223372036854775807 := by
              rw [ByteArray.size_extract, pushB_size]; simp; omega
            have hb1 : ([[.lit (.int .u8 (byteV tx i : Int))]] : List (List PV)).mapM oneB = some [(byteV tx i : Int)] := bytes_map [(byteV tx i : Int)]

            refine awp_exit ?_
            clear hK
            refine hK _ ?_; clear hK K
            (refine awp_reg_end [0, 1, 4, 6, 8, 9, 10, 84, 85] fun K hK => ?_; (repeat' ((first | refine al_r rfl fun K' hK' => ?_ | refine al_d rfl fun K' hK' => ?_); (repeat (first | (simp only [go_sem, simprocAttr, List.length_map, hby, hix, hpush, hcat, hb1, List.take_succ_cons, List.take_zero, List.drop_zero]) | refine AS.mk ?_)); ((first | refine hK' _ _ ?_ | refine ⟨?_, hK' _ _ ?_⟩) <;> clear hK' K' <;> (first | (show alist _ _ _ _ _ _; skip) | (simp; done))))); all_goals (refine al_nil ?_; (simp only [go_sem, simprocAttr, List.length_map, hby, hix, hpush, hcat, hb1, List.take_succ_cons, List.take_zero, List.drop_zero]); refine hK _ ?_; clear hK K))
            refine hK _ ?_; clear hK K
            (refine awp_reg_end [0, 1, 4, 6, 8, 9, 10, 84, 85] fun K hK => ?_; (repeat' ((refine al_r rfl fun K' hK' => ?_); (repeat (simp only [go_sem, simprocAttr, List.length_map, hby, hix, hpush, hcat, hb1, List.take_succ_cons, List.take_zero, List.drop_zero])); ((refine hK' _ _ ?_) <;> clear hK' K'))); all_goals (refine al_nil ?_; (simp only [go_sem, simprocAttr, List.length_map, hby, hix, hpush, hcat, hb1, List.take_succ_cons, List.take_zero, List.drop_zero]); refine hK _ ?_; clear hK K))
            refine ⟨tx.size - (i + 1), by omega, [0, 1, 4, 6, 8, 9, 10, 84, 85], [0, 1], by decide, by intro q hq; exact absurd hq (Nat.not_lt_zero q), i + 1, hi2, rfl, ?_⟩
            simp only [go_sem, simprocAttr, List.length_map, hby, hix, hpush, hcat, hb1, List.take_succ_cons, List.take_zero, List.drop_zero]

        · have hie : i = tx.size := by simp at hc; omega
          subst hie
          rw [← ext_zero tx]
          have hP1 : List.drop M (List.take (M + ps.length) (L2.map wrow)) = ps.map wrow := by
            rw [← List.map_take, ← List.map_drop, List.drop_take, Nat.add_sub_cancel_left, hL2, show M = (textW tx).length by rw [htl, hM], List.drop_left, List.take_left]
          have hPt : List.take ps.length (ps.map wrow) = ps.map wrow := List.take_of_length_le (by simp)
          have hPf : ps.length * 8 ≤ 140737488355328 := by omega
          have hM0 : (0 : Int) ≤ (M : Int) := Int.natCast_nonneg M
          have hM1 : (M : Int) ≤ ((M + ps.length : Nat) : Int) := by omega
          have hM2 : ((M + ps.length : Nat) : Int) ≤ (L2.length : Int) := by omega
          have hM3 : (0 : Int) ≤ ((M + ps.length : Nat) : Int) := Int.natCast_nonneg _
          have hPw := wrow1 ps
          (refine awp_frz [0, 1, 4, 6, 8, 9, 10] [0, 1] (by decide) (by (simp; done)) ?_; simp only [go_sem, simprocAttr, List.length_map])
          refine awp_born_box 1 4 1 rfl rfl ?_
          simp only [go_sem, simprocAttr, List.length_map]
          refine awp_exit ?_
          clear hK
          refine hK _ ?_; clear hK K

          refine awp_draw_seq (by kernel_rfl) [0, 1, 4, 6] fun K hK => ?_
          have key : K (⟨ofL [(0, words h), (1, iD n), (4, .ptr 0 0 0), (6, .ptr 1 0 0)], [.box [iD 0, iD 0, iD 0, .p (.lit (.string ByteArray.empty)), .nil], .box [iD n, iD kk, iD on, .p (.lit (.string tx)), .ref 3 0 ps.length], .dead, .row 1 (ps.map wrow)], 0⟩) := by
            refine hK _ ?_; clear hK K
            (refine awp_frz [0, 1, 4, 6] [0] (by decide) (by (simp; done)) ?_; simp only [go_sem, simprocAttr, List.length_map, hP1, hPt, hPf, hmp, hM0, hM1, hM2, hM3, Nat.zero_add, Int.toNat_natCast, List.take_nil, List.take_zero, List.nil_append])
            refine awp_seq_k fun K hK => ?_

            (refine awp_reg_seq [0, 1, 4, 6, 122] fun K hK => ?_; (repeat' ((refine al_r rfl fun K' hK' => ?_); (repeat (simp only [go_sem, simprocAttr, List.length_map, hPt, List.drop_zero])); (first | ((refine hK' _ _ ?_) <;> clear hK' K') | ((show AC _ _ (D.fn 87 _) _ _); refine acall_p (f := 87) (e := rfl) (hr := rfl) (k := hK' _ _ ?_) (hc := Try.call87) (h := hois); clear hK' K')))); all_goals (refine al_nil ?_; (simp only [go_sem, simprocAttr, List.length_map, hPt, List.drop_zero]); refine hK _ ?_; clear hK K))
            refine awp_if (_) rfl (fun hc => ?_) (fun hc => ?_)
            · cases hc
            · refine awp_skip ?_
              refine hK _ ?_; clear hK K
              refine awp_seq_k fun K hK => ?_
              (refine awp_reg_seq [0, 1, 4, 6, 125, 126, 127] fun K hK => ?_; (repeat' ((refine al_r rfl fun K' hK' => ?_); (repeat (simp only [go_sem, simprocAttr, List.length_map, hPt, List.drop_zero])); (first | ((first | refine hK' _ _ ?_ | refine ⟨?_, hK' _ _ ?_⟩) <;> clear hK' K' <;> (first | (show alist _ _ _ _ _ _; skip) | (intro s hs; cases hs; done))) | ((show AC _ _ (D.fn 88 _) _ _); refine acall_p (f := 88) (e := rfl) (hr := rfl) (k := hK' _ _ ?_) (hc := Try.call88) (h := how); clear hK' K')))); all_goals (refine al_nil ?_; (simp only [go_sem, simprocAttr, List.length_map, hPt, List.drop_zero]); refine hK _ ?_; clear hK K))
              refine awp_block ?_
              -- loop 2 head [0, 1, 4, 6, 125, 126, 127]
              refine awp_loop_cut (fun m s => ∃ i : Nat, i ≤ E.length ∧ m = E.length - i ∧ s = ⟨ofL [(0, words h), (1, iD n), (4, .ptr 0 0 0), (6, .rd [.lit (.int .i64 n), .lit (.int .i64 kk), .lit (.int .i64 on), .lit (.string tx), .sl (ps.map wrow)] 0), (125, words E), (126, iD E.length), (127, iD i)], [.box [iD 0, iD 0, iD 0, .p (.lit (.string ByteArray.empty)), .nil]], 0⟩) ⟨_, 0, Nat.zero_le _, rfl, rfl⟩ ?_
              rintro m s ⟨i, hi, hmi, rfl⟩
              (refine awp_reg_seq [0, 1, 4, 6, 125, 126, 127, 128] fun K hK => ?_; (repeat' ((refine al_r rfl fun K' hK' => ?_); (repeat (simp only [go_sem, simprocAttr, List.length_map, hPt, List.drop_zero])); ((refine hK' _ _ ?_) <;> clear hK' K'))); all_goals (refine al_nil ?_; (simp only [go_sem, simprocAttr, List.length_map, hPt, List.drop_zero]); refine hK _ ?_; clear hK K))
              refine awp_seq_k fun K hK => ?_
              refine awp_if (decide ((i : Int) < (E.length : Int))) rfl (fun hc => ?_) (fun hc => ?_)
              · refine awp_skip ?_
                refine hK _ ?_; clear hK K
                refine awp_seq_k fun K hK => ?_
                refine awp_block ?_
                have hi2 : i < E.length := by simpa using hc
                obtain ⟨w, hgE⟩ := get_of_lt hi2
                have hgh := hge i hi2
                rw [hgE] at hgh
                have hi0 : (0 : Int) ≤ (i : Int) := Int.natCast_nonneg i
                have hix : IntKind.i64.wrap ((i : Int) + 1) = ((i + 1 : Nat) : Int) := by rw [Go.Ab.wrap_small (by omega) (by omega)]; rfl
                have hni : IntKind.i64.wrap ((n : Int) + (i : Int)) = ((n + i : Nat) : Int) := by rw [Go.Ab.wrap_small (by omega) (by omega)]; rfl
                have hni0 : (0 : Int) ≤ ((n + i : Nat) : Int) := Int.natCast_nonneg _
                have hnil : ((n + i : Nat) : Int) < (h.length : Int) := by omega

                (refine awp_reg_seq [0, 1, 4, 6, 13, 14, 125, 126, 127] fun K hK => ?_; (repeat' ((refine al_r rfl fun K' hK' => ?_); (repeat (simp only [go_sem, simprocAttr, List.length_map, hgE, hgh, hi0, hi2, hix, hni, hni0, hnil, bne_self_eq_false, List.getElem?_map, Option.map_some, Int.toNat_natCast])); ((refine hK' _ _ ?_) <;> clear hK' K'))); all_goals (refine al_nil ?_; (simp only [go_sem, simprocAttr, List.length_map, hgE, hgh, hi0, hi2, hix, hni, hni0, hnil, bne_self_eq_false, List.getElem?_map, Option.map_some, Int.toNat_natCast]); refine hK _ ?_; clear hK K))
                (refine awp_reg_seq [0, 1, 4, 6, 125, 126, 127, 139] fun K hK => ?_; (repeat' ((refine al_r rfl fun K' hK' => ?_); (repeat (simp only [go_sem, simprocAttr, List.length_map, hgE, hgh, hi0, hi2, hix, hni, hni0, hnil, bne_self_eq_false, List.getElem?_map, Option.map_some, Int.toNat_natCast])); ((refine hK' _ _ ?_) <;> clear hK' K'))); all_goals (refine al_nil ?_; (simp only [go_sem, simprocAttr, List.length_map, hgE, hgh, hi0, hi2, hix, hni, hni0, hnil, bne_self_eq_false, List.getElem?_map, Option.map_some, Int.toNat_natCast]); refine hK _ ?_; clear hK K))
                refine awp_if (_) rfl (fun hc => ?_) (fun hc => ?_)
                · cases hc
                · refine awp_skip ?_
                  refine hK _ ?_; clear hK K
                  (refine awp_reg_end [0, 1, 4, 6, 125, 126, 127] fun K hK => ?_; (repeat' ((refine al_r rfl fun K' hK' => ?_); (repeat (simp only [go_sem, simprocAttr, List.length_map, hgE, hgh, hi0, hi2, hix, hni, hni0, hnil, bne_self_eq_false, List.getElem?_map, Option.map_some, Int.toNat_natCast])); ((refine hK' _ _ ?_) <;> clear hK' K'))); all_goals (refine al_nil ?_; (simp only [go_sem, simprocAttr, List.length_map, hgE, hgh, hi0, hi2, hix, hni, hni0, hnil, bne_self_eq_false, List.getElem?_map, Option.map_some, Int.toNat_natCast]); refine hK _ ?_; clear hK K))
                  exact ⟨E.length - (i + 1), by omega, [0, 1, 4, 6, 125, 126, 127], [0], by decide, by intro q hq; exact absurd hq (Nat.not_lt_zero q), i + 1, hi2, rfl, rfl⟩

              · refine awp_exit ?_
                clear hK
                refine hK _ ?_; clear hK K
                (refine awp_reg_seq [4, 5] fun K hK => ?_; (repeat' ((first | refine al_r rfl fun K' hK' => ?_ | refine al_d rfl fun K' hK' => ?_); (repeat (first | (simp only [go_sem, simprocAttr, List.length_map]) | refine AS.mk ?_)); ((first | refine hK' _ _ ?_ | refine ⟨?_, hK' _ _ ?_⟩) <;> clear hK' K' <;> (first | (show alist _ _ _ _ _ _; skip) | (simp; done))))); all_goals (refine al_nil ?_; (simp only [go_sem, simprocAttr, List.length_map]); refine hK _ ?_; clear hK K))
                refine awp_ret ?_; refine hR _ _ (.inl rfl) rfl ?_
                simp only [go_sem, simprocAttr, List.length_map]

          ((refine ah_r 0 rfl (by kernel_rfl) rfl fun K' hK' => ?_); (simp only [go_sem, simprocAttr, List.length_map, hP1, hPt, hPf, hmp, hM0, hM1, hM2, hM3, Nat.zero_add, Int.toNat_natCast, List.take_nil, List.take_zero, List.nil_append]); ((refine hK' _ ?_); clear hK' K'))
          ((refine ah_r 2 rfl (by kernel_rfl) rfl fun K' hK' => ?_); (simp only [go_sem, simprocAttr, List.length_map, hP1, hPt, hPf, hmp, hM0, hM1, hM2, hM3, Nat.zero_add, Int.toNat_natCast, List.take_nil, List.take_zero, List.nil_append]); ((refine hK' _ ?_); clear hK' K'))
          ((refine ah_r 3 rfl (by kernel_rfl) rfl fun K' hK' => ?_); (simp only [go_sem, simprocAttr, List.length_map, hP1, hPt, hPf, hmp, hM0, hM1, hM2, hM3, Nat.zero_add, Int.toNat_natCast, List.take_nil, List.take_zero, List.nil_append]); ((refine hK' _ ?_); clear hK' K'))
          ((refine ah_r 4 rfl (by kernel_rfl) rfl fun K' hK' => ?_); (simp only [go_sem, simprocAttr, List.length_map, hP1, hPt, hPf, hmp, hM0, hM1, hM2, hM3, Nat.zero_add, Int.toNat_natCast, List.take_nil, List.take_zero, List.nil_append]); ((refine hK' _ ?_); clear hK' K'))
          ((refine ah_r 5 rfl (by kernel_rfl) rfl fun K' hK' => ?_); (simp only [go_sem, simprocAttr, List.length_map, hP1, hPt, hPf, hmp, hM0, hM1, hM2, hM3, Nat.zero_add, Int.toNat_natCast, List.take_nil, List.take_zero, List.nil_append]); ((refine hK' _ ?_); clear hK' K'))
          ((refine ah_r 6 rfl (by kernel_rfl) rfl fun K' hK' => ?_); (simp only [go_sem, simprocAttr, List.length_map, hP1, hPt, hPf, hmp, hM0, hM1, hM2, hM3, Nat.zero_add, Int.toNat_natCast, List.take_nil, List.take_zero, List.nil_append]); ((refine hK' _ ?_); clear hK' K'))
          refine ah_two 1 7 rfl rfl (by kernel_rfl) ?_ ?_
          · ((repeat' ((refine al_r rfl fun K' hK' => ?_); (repeat (simp only [go_sem, simprocAttr, List.length_map, hP1, hPt, hPf, hmp, hM0, hM1, hM2, hM3, Nat.zero_add, Int.toNat_natCast, List.take_nil, List.take_zero, List.nil_append])); ((refine hK' _ _ ?_) <;> clear hK' K'))); all_goals refine al_nil ?_)
            (refine ah_one 7 rfl (by kernel_rfl) ?_; (repeat' ((refine al_r rfl fun K' hK' => ?_); (repeat (simp only [go_sem, simprocAttr, List.length_map, hP1, hPt, hPf, hmp, hM0, hM1, hM2, hM3, Nat.zero_add, Int.toNat_natCast, List.take_nil, List.take_zero, List.nil_append])); ((refine ⟨?_, hK' _ _ ?_⟩) <;> clear hK' K' <;> (first | (show alist _ _ _ _ _ _; skip) | (simp; done))))); all_goals refine al_nil ?_)
            (refine ah_one 8 rfl (by kernel_rfl) ?_; (repeat' ((refine al_r rfl fun K' hK' => ?_); (repeat (first | (simp only [go_sem, simprocAttr, List.length_map, hP1, hPt, hPf, hmp, hM0, hM1, hM2, hM3, Nat.zero_add, Int.toNat_natCast, List.take_nil, List.take_zero, List.nil_append]) | refine AAp.grow ?_)); ((refine ⟨?_, hK' _ _ ?_⟩) <;> clear hK' K' <;> (first | (show alist _ _ _ _ _ _; skip) | assumption)))); all_goals refine al_nil ?_)
            ((refine ah_r 9 rfl (by kernel_rfl) rfl fun K' hK' => ?_); (simp only [go_sem, simprocAttr, List.length_map, hP1, hPt, hPf, hmp, hM0, hM1, hM2, hM3, Nat.zero_add, Int.toNat_natCast, List.take_nil, List.take_zero, List.nil_append]); ((refine hK' _ ?_); clear hK' K'))
            (refine ah_one 10 rfl (by kernel_rfl) ?_; (repeat' ((refine al_d rfl fun K' hK' => ?_); (repeat (first | (simp only [go_sem, simprocAttr, List.length_map, hP1, hPt, hPf, hmp, hM0, hM1, hM2, hM3, Nat.zero_add, Int.toNat_natCast, List.take_nil, List.take_zero, List.nil_append]) | refine AS.mk ?_)); ((refine ⟨?_, hK' _ _ ?_⟩) <;> clear hK' K' <;> (first | (show alist _ _ _ _ _ _; skip) | (simp; done))))); all_goals refine al_nil ?_)
            (refine ah_done (by kernel_rfl) ?_; (simp only [go_sem, simprocAttr, List.length_map, hP1, hPt, hPf, hmp, hM0, hM1, hM2, hM3, Nat.zero_add, Int.toNat_natCast, List.take_nil, List.take_zero, List.nil_append]); exact key)
          · ((repeat' ((refine al_r rfl fun K' hK' => ?_); (repeat (simp only [go_sem, simprocAttr, List.length_map, hP1, hPt, hPf, hmp, hM0, hM1, hM2, hM3, Nat.zero_add, Int.toNat_natCast, List.take_nil, List.take_zero, List.nil_append])); ((refine ⟨?_, hK' _ _ ?_⟩) <;> clear hK' K' <;> (first | (show alist _ _ _ _ _ _; skip) | (simp; done))))); all_goals refine al_nil ?_)
            (refine ah_one 1 rfl (by kernel_rfl) ?_; (repeat' ((refine al_r rfl fun K' hK' => ?_); (repeat (simp only [go_sem, simprocAttr, List.length_map, hP1, hPt, hPf, hmp, hM0, hM1, hM2, hM3, Nat.zero_add, Int.toNat_natCast, List.take_nil, List.take_zero, List.nil_append])); ((refine hK' _ _ ?_) <;> clear hK' K'))); all_goals refine al_nil ?_)
            (refine ah_one 8 rfl (by kernel_rfl) ?_; (repeat' ((refine al_r rfl fun K' hK' => ?_); (repeat (first | (simp only [go_sem, simprocAttr, List.length_map, hP1, hPt, hPf, hmp, hM0, hM1, hM2, hM3, Nat.zero_add, Int.toNat_natCast, List.take_nil, List.take_zero, List.nil_append]) | refine AAp.grow ?_)); ((refine ⟨?_, hK' _ _ ?_⟩) <;> clear hK' K' <;> (first | (show alist _ _ _ _ _ _; skip) | assumption)))); all_goals refine al_nil ?_)
            ((refine ah_r 9 rfl (by kernel_rfl) rfl fun K' hK' => ?_); (simp only [go_sem, simprocAttr, List.length_map, hP1, hPt, hPf, hmp, hM0, hM1, hM2, hM3, Nat.zero_add, Int.toNat_natCast, List.take_nil, List.take_zero, List.nil_append]); ((refine hK' _ ?_); clear hK' K'))
            (refine ah_one 10 rfl (by kernel_rfl) ?_; (repeat' ((refine al_d rfl fun K' hK' => ?_); (repeat (first | (simp only [go_sem, simprocAttr, List.length_map, hP1, hPt, hPf, hmp, hM0, hM1, hM2, hM3, Nat.zero_add, Int.toNat_natCast, List.take_nil, List.take_zero, List.nil_append]) | refine AS.mk ?_)); ((refine ⟨?_, hK' _ _ ?_⟩) <;> clear hK' K' <;> (first | (show alist _ _ _ _ _ _; skip) | (simp; done))))); all_goals refine al_nil ?_)
            (refine ah_done (by kernel_rfl) ?_; (simp only [go_sem, simprocAttr, List.length_map, hP1, hPt, hPf, hmp, hM0, hM1, hM2, hM3, Nat.zero_add, Int.toNat_natCast, List.take_nil, List.take_zero, List.nil_append]); exact key)

    (refine awp_reg_tov [0, 1, 4, 6, 7, 8, 9, 62] [(62, bD ((kk : Int) == 1 || (kk : Int) == 4))] (h := ?_) (k := ?_); · ((repeat' (first | ((first | refine al_r rfl fun K' hK' => ?_ | refine al_t rfl rfl fun K' hK' => ?_); (repeat (simp only [go_sem, simprocAttr, List.length_map])); ((refine hK' _ _ ?_) <;> clear hK' K')) | refine al_e rfl rfl ?_ | ((fail_if_success (refine al_t rfl rfl fun K' hK' => ?_)); refine al_s _ rfl rfl rfl (fun hb => ?_) (fun hb => ?_)))); all_goals (refine al_nil ?_; simp only [go_sem, simprocAttr, List.length_map, *, Bool.and_true, Bool.and_false, Bool.true_and, Bool.false_and, Bool.or_true, Bool.true_or, Bool.or_false, Bool.false_or, Bool.not_true, Bool.not_false, Bool.false_eq_true]))); intro K hK; (simp only [go_sem, simprocAttr, List.length_map]); refine hK _ ?_; clear hK K
    refine awp_if ((kk : Int) == 1 || (kk : Int) == 4) rfl (fun hc => ?_) (fun hc => ?_)
    · rw [if_pos hc] at hL1e
      have hl0 : ((L1.length : Int) == 0) = false := by rw [beq_eq_false_iff_ne, hL1e]; simp; omega
      have hg0 : L1[0]? = some (IntKind.u64.wrap on) := by rw [hL1e]; rfl
      have hnb := num_back hnum
      have hl1 : (1 : Int) ≤ (L1.length : Int) := by rw [beq_eq_false_iff_ne] at hl0; omega
      have hl2 : (0 : Int) < (L1.length : Int) := by omega
      have hd2 : List.drop 1 (List.take L1.length (L1.map wrow)) = (L1.drop 1).map wrow := by rw [List.take_of_length_le (by simp), List.map_drop]

      refine awp_seq_k fun K hK => ?_
      (refine awp_reg_seq [0, 1, 4, 6, 7, 8, 9, 65] fun K hK => ?_; (repeat' ((refine al_r rfl fun K' hK' => ?_); (repeat (simp only [go_sem, simprocAttr, List.length_map, hl0, hg0, hnb, hl1, hl2, hd2, List.getElem?_map, Option.map_some, Int.toNat_natCast])); ((first | refine hK' _ _ ?_ | refine ⟨?_, hK' _ _ ?_⟩) <;> clear hK' K' <;> (first | (show alist _ _ _ _ _ _; skip) | (intro s hs; cases hs; done))))); all_goals (refine al_nil ?_; (simp only [go_sem, simprocAttr, List.length_map, hl0, hg0, hnb, hl1, hl2, hd2, List.getElem?_map, Option.map_some, Int.toNat_natCast]); refine hK _ ?_; clear hK K))
      refine awp_if (_) rfl (fun hc => ?_) (fun hc => ?_)
      · cases hc
      · refine awp_skip ?_
        refine hK _ ?_; clear hK K
        refine awp_draw (by kernel_rfl) [0, 1, 4, 6, 7, 8, 9] fun K hK => ?_
        have key : K (⟨ofL [(0, words h), (1, iD n), (4, .ptr 0 0 0), (6, .ptr 1 0 0), (7, iD tx.size), (8, iD ps.length), (9, words (L1.drop 1))], [.box [iD 0, iD 0, iD 0, .p (.lit (.string ByteArray.empty)), .nil], .box [iD n, iD kk, iD on, .p (.lit (.string ByteArray.empty)), .nil]], 0⟩) := by
          refine hK _ ?_; clear hK K
          (first
            | (refine hcut _ [0, 1, 4, 6, 7, 8, 9] [0, 1] (by decide) (by intro q hq; exact absurd hq (Nat.not_lt_zero q)) ?_; simp only [go_sem, simprocAttr, List.length_map, hl0, hg0, hnb, hl1, hl2, hd2, List.getElem?_map, Option.map_some, Int.toNat_natCast]; exact key (L1.drop 1) (by rw [hL1e]; rfl))
            | (refine hcut _ [0, 1, 4, 6, 7, 8, 9] [0, 1] (by decide) (by intro q hq; exact absurd hq (Nat.not_lt_zero q)) ?_; simp only [go_sem, simprocAttr, List.length_map, hl0, hg0, hnb, hl1, hl2, hd2, List.getElem?_map, Option.map_some, Int.toNat_natCast]; rw [hon] at key; exact key L1 hL1e))
        ((refine ah_r 0 rfl (by kernel_rfl) rfl fun K' hK' => ?_); (simp only [go_sem, simprocAttr, List.length_map, hl0, hg0, hnb, hl1, hl2, hd2, List.getElem?_map, Option.map_some, Int.toNat_natCast]); ((refine hK' _ ?_); clear hK' K'))
        ((refine ah_r 1 rfl (by kernel_rfl) rfl fun K' hK' => ?_); (simp only [go_sem, simprocAttr, List.length_map, hl0, hg0, hnb, hl1, hl2, hd2, List.getElem?_map, Option.map_some, Int.toNat_natCast]); ((refine hK' _ ?_); clear hK' K'))
        ((refine ah_r 2 rfl (by kernel_rfl) rfl fun K' hK' => ?_); (simp only [go_sem, simprocAttr, List.length_map, hl0, hg0, hnb, hl1, hl2, hd2, List.getElem?_map, Option.map_some, Int.toNat_natCast]); ((refine hK' _ ?_); clear hK' K'))
        ((refine ah_r 3 rfl (by kernel_rfl) rfl fun K' hK' => ?_); (simp only [go_sem, simprocAttr, List.length_map, hl0, hg0, hnb, hl1, hl2, hd2, List.getElem?_map, Option.map_some, Int.toNat_natCast]); ((refine hK' _ ?_); clear hK' K'))
        ((refine ah_r 4 rfl (by kernel_rfl) rfl fun K' hK' => ?_); (simp only [go_sem, simprocAttr, List.length_map, hl0, hg0, hnb, hl1, hl2, hd2, List.getElem?_map, Option.map_some, Int.toNat_natCast]); ((refine hK' _ ?_); clear hK' K'))
        ((refine ah_r 6 rfl (by kernel_rfl) rfl fun K' hK' => ?_); (simp only [go_sem, simprocAttr, List.length_map, hl0, hg0, hnb, hl1, hl2, hd2, List.getElem?_map, Option.map_some, Int.toNat_natCast]); ((refine hK' _ ?_); clear hK' K'))
        refine ah_two 5 7 rfl rfl (by kernel_rfl) ?_ ?_
        · ((repeat' ((refine al_r rfl fun K' hK' => ?_); (repeat (simp only [go_sem, simprocAttr, List.length_map, hl0, hg0, hnb, hl1, hl2, hd2, List.getElem?_map, Option.map_some, Int.toNat_natCast])); ((refine ⟨?_, ?_, hK' _ _ ?_⟩) <;> clear hK' K' <;> (first | (show alist _ _ _ _ _ _; skip) | (simp; done))))); all_goals refine al_nil ?_)
          (refine ah_one 7 rfl (by kernel_rfl) ?_; (repeat' ((refine al_d rfl fun K' hK' => ?_); (repeat (first | (simp only [go_sem, simprocAttr, List.length_map, hl0, hg0, hnb, hl1, hl2, hd2, List.getElem?_map, Option.map_some, Int.toNat_natCast]) | refine AS.mk ?_)); ((refine ⟨?_, hK' _ _ ?_⟩) <;> clear hK' K' <;> (first | (show alist _ _ _ _ _ _; skip) | (simp; done))))); all_goals refine al_nil ?_)
          ((refine ah_r 8 rfl (by kernel_rfl) rfl fun K' hK' => ?_); (simp only [go_sem, simprocAttr, List.length_map, hl0, hg0, hnb, hl1, hl2, hd2, List.getElem?_map, Option.map_some, Int.toNat_natCast]); ((refine hK' _ ?_); clear hK' K'))
          (refine ah_done (by kernel_rfl) ?_; (simp only [go_sem, simprocAttr, List.length_map, hl0, hg0, hnb, hl1, hl2, hd2, List.getElem?_map, Option.map_some, Int.toNat_natCast]); exact key)
        · ((repeat' ((refine al_d rfl fun K' hK' => ?_); (repeat (first | (simp only [go_sem, simprocAttr, List.length_map, hl0, hg0, hnb, hl1, hl2, hd2, List.getElem?_map, Option.map_some, Int.toNat_natCast]) | refine AS.mk ?_)); ((refine ⟨?_, hK' _ _ ?_⟩) <;> clear hK' K' <;> (first | (show alist _ _ _ _ _ _; skip) | (simp; done))))); all_goals refine al_nil ?_)
          (refine ah_one 5 rfl (by kernel_rfl) ?_; (repeat' ((refine al_r rfl fun K' hK' => ?_); (repeat (simp only [go_sem, simprocAttr, List.length_map, hl0, hg0, hnb, hl1, hl2, hd2, List.getElem?_map, Option.map_some, Int.toNat_natCast])); ((refine ⟨?_, ?_, hK' _ _ ?_⟩) <;> clear hK' K' <;> (first | (show alist _ _ _ _ _ _; skip) | (simp; done))))); all_goals refine al_nil ?_)
          ((refine ah_r 8 rfl (by kernel_rfl) rfl fun K' hK' => ?_); (simp only [go_sem, simprocAttr, List.length_map, hl0, hg0, hnb, hl1, hl2, hd2, List.getElem?_map, Option.map_some, Int.toNat_natCast]); ((refine hK' _ ?_); clear hK' K'))
          (refine ah_done (by kernel_rfl) ?_; (simp only [go_sem, simprocAttr, List.length_map, hl0, hg0, hnb, hl1, hl2, hd2, List.getElem?_map, Option.map_some, Int.toNat_natCast]); exact key)
    · rw [if_neg (by rw [hc]; exact Bool.false_ne_true), List.nil_append] at hL1e
      have hon := hnz hc

      refine awp_skip ?_
      (first
        | (refine hcut _ [0, 1, 4, 6, 7, 8, 9] [0, 1] (by decide) (by intro q hq; exact absurd hq (Nat.not_lt_zero q)) ?_; simp only [go_sem, simprocAttr, List.length_map]; exact key (L1.drop 1) (by rw [hL1e]; rfl))
        | (refine hcut _ [0, 1, 4, 6, 7, 8, 9] [0, 1] (by decide) (by intro q hq; exact absurd hq (Nat.not_lt_zero q)) ?_; simp only [go_sem, simprocAttr, List.length_map]; rw [hon] at key; exact key L1 hL1e))
end Go.Proofs.Ytagphggcdmjlpaa.P

/- A range over a map that has nothing; the number of a map's entries. No program is named here. -/
namespace Go.Ab

section
variable {P : Program} {nt : Nat} {Q : Exit → St → Prop}

theorem wants {o : Oper} {ops : Array Oper} {tm : Array Value} (hg : o.guard = none) : Region.wanted o (yielded ops tm) = true := by simp [Region.wanted, hg]

end

end Go.Ab

/- What is left where a value was carried away, and the cells of what was carried over: plain facts. -/
namespace Go.Proofs.Ytagphggcdmjlpaa.P
open Go.Ab Go.Proofs.Ytagphggcdmjlpaa.T

/-- A cell that went is an int where it was. -/
def emp (mv : List (Int × Int)) (o : Obj) : Obj := if (lk mv o.at_).isSome && (o.kind == 5 && (o.parts.length : Int) == 1) then ⟨o.at_, 1, 0, ByteArray.empty, []⟩ else o

theorem emp_no {mv : List (Int × Int)} {o : Obj} (h : (o.kind == 5 && (o.parts.length : Int) == 1) = false) : emp mv o = o := by unfold emp; rw [h, Bool.and_false]; exact if_neg Bool.false_ne_true
theorem emp_none {mv : List (Int × Int)} {o : Obj} (h : lk mv o.at_ = none) : emp mv o = o := by unfold emp; rw [h]; exact if_neg Bool.false_ne_true

theorem enc_big (a : Int) : encW ⟨a, 1, 0, ByteArray.empty, []⟩ = [1, 0] := by kernel_rfl

theorem cell_enc {o : Obj} (hr : rightS o = true) (h : (o.kind == 5 && (o.parts.length : Int) == 1) = true) : (encW o).length = 2 := by
  rw [Bool.and_eq_true, beq_iff_eq, beq_iff_eq] at h
  have ht : o.text.size = 0 := by
    unfold rightS at hr
    rw [h.1] at hr
    simp only [Bool.and_eq_true, Bool.not_eq_true', Bool.and_eq_false_iff] at hr
    obtain ⟨_, _, h3, _⟩ := hr
    rcases h3 with h3 | h3
    · rcases h3 with h3 | h3 <;> exact absurd h3 (by decide)
    · rw [text_nil (t := o.text) (by cases hx : (o.text.toList == (⟨#[]⟩ : ByteArray).toList) with | true => rfl | false => rw [hx] at h3; cases h3)]; rfl
  have := enc_len o
  rw [this]
  unfold roomN
  rw [h.1, ht]
  have h2 := h.2
  simp
  omega

theorem emp_len {mv : List (Int × Int)} {o : Obj} (hr : ObjOk o) : (encW (emp mv o)).length = (encW o).length := by
  unfold emp
  split
  · rename_i h
    rw [Bool.and_eq_true] at h
    rw [enc_big, cell_enc hr.1 h.2]; rfl
  · rfl

theorem emp_flat {mv : List (Int × Int)} : ∀ {L : List Obj}, (∀ o, o ∈ L → ObjOk o) → (flat (L.map (emp mv))).length = (flat L).length
  | [], _ => rfl
  | o :: L, h => by
    show (encW (emp mv o) ++ flat (L.map (emp mv))).length = (encW o ++ flat L).length
    rw [List.length_append, List.length_append, emp_len (h o List.mem_cons_self), emp_flat fun x hx => h x (List.mem_cons_of_mem _ hx)]

theorem placed_sorted {L : List Obj} (hL : Placed L) : (L.map fun z => z.at_).Pairwise (· < ·) := by
  have gen : ∀ (L : List Obj) (a : Nat), place a L = L → (L.map fun z => z.at_).Pairwise (· < ·) ∧ ∀ z, z ∈ L → (a : Int) ≤ z.at_ := by
    intro L
    induction L with
    | nil => intro a _; exact ⟨.nil, fun z hz => by cases hz⟩
    | cons w L ih =>
      intro a hp
      have hp : w.to a :: place (a + (encW w).length) L = w :: L := hp
      have e1 : w.to a = w := (List.cons.inj hp).1
      have e2 := (List.cons.inj hp).2
      have hwa : w.at_ = a := by rw [← e1]; rfl
      obtain ⟨i1, i2⟩ := ih _ e2
      have hpos : 1 ≤ (encW w).length := by unfold encW; simp
      refine ⟨List.pairwise_cons.2 ⟨fun z hz => ?_, i1⟩, fun z hz => ?_⟩
      · obtain ⟨v, hv, rfl⟩ := List.mem_map.1 hz
        have := i2 v hv
        show w.at_ < v.at_
        omega
      · rcases List.mem_cons.1 hz with rfl | hz
        · omega
        · have := i2 z hz
          omega
  exact (gen L 0 hL.1).1

/-- One object more goes. -/
theorem emp_put {L : List Obj} {mv : List (Int × Int)} {o : Obj} (hL : Placed L) (ho : o ∈ L) (x : Int) (hl : lk mv o.at_ = none) : leftK (flat (L.map (emp mv))) o = flat (L.map (emp (mv ++ [(o.at_, x)]))) := by
  have other : ∀ y, y ∈ L → y.at_ ≠ o.at_ → emp (mv ++ [(o.at_, x)]) y = emp mv y := fun y _ hy => by
    have : (lk (mv ++ [(o.at_, x)]) y.at_).isSome = (lk mv y.at_).isSome := by
      rw [lk_end]
      cases lk mv y.at_ with
      | some z => rfl
      | none => dsimp only; rw [if_neg (fun e => hy e.symm)]
    unfold emp
    rw [this]
  unfold leftK
  by_cases hc : (o.kind == 5 && (o.parts.length : Int) == 1) = true
  · rw [if_pos hc]
    obtain ⟨A, B, hsp, ha⟩ := placed_split hL ho
    have hA : ∀ y, y ∈ A → emp (mv ++ [(o.at_, x)]) y = emp mv y := fun y hy => other y (by rw [hsp]; exact List.mem_append_left _ hy) fun e => by
      have hyL : y ∈ L := by rw [hsp]; exact List.mem_append_left _ hy
      have hAp : ∃ P Q, A = P ++ y :: Q := List.append_of_mem hy
      obtain ⟨P, Q, hAe⟩ := hAp
      obtain ⟨n, e1, e2⟩ := placed_len (L := L) hL hyL
      obtain ⟨P2, Q2, hs2, ha2⟩ := placed_split hL hyL
      have : y = o := placed_inj hL hyL ho e
      subst this
      -- y would lie twice
      have hn := hL.1
      have hnd := placed_sorted hL
      rw [hsp, List.map_append, List.pairwise_append] at hnd
      exact absurd (hnd.2.2 y.at_ (List.mem_map.2 ⟨y, hy, rfl⟩) y.at_ (List.mem_cons_self)) (Int.lt_irrefl _)
    have hB : ∀ y, y ∈ B → emp (mv ++ [(o.at_, x)]) y = emp mv y := fun y hy => other y (by rw [hsp]; exact List.mem_append_right _ (List.mem_cons_of_mem _ hy)) fun e => by
      have hyL : y ∈ L := by rw [hsp]; exact List.mem_append_right _ (List.mem_cons_of_mem _ hy)
      have : y = o := placed_inj hL hyL ho e
      subst this
      have hnd := placed_sorted hL
      rw [hsp, List.map_append, List.pairwise_append] at hnd
      exact absurd ((List.pairwise_cons.1 hnd.2.1).1 y.at_ (List.mem_map.2 ⟨y, hy, rfl⟩)) (Int.lt_irrefl _)
    have ho1 : emp mv o = o := emp_none hl
    have ho2 : emp (mv ++ [(o.at_, x)]) o = ⟨o.at_, 1, 0, ByteArray.empty, []⟩ := by
      unfold emp
      rw [lk_end, hl]
      dsimp only
      rw [if_pos rfl, hc]
      rfl
    have hAl : (flat (A.map (emp mv))).length = (flat A).length := emp_flat fun y hy => hL.2 y (by rw [hsp]; exact List.mem_append_left _ hy)
    have e1 : flat (L.map (emp mv)) = flat (A.map (emp mv)) ++ (encW o ++ flat (B.map (emp mv))) := by
      rw [hsp, List.map_append, List.map_cons, ho1, flat_append]; rfl
    have e2 : flat (L.map (emp (mv ++ [(o.at_, x)]))) = flat (A.map (emp mv)) ++ ([1, 0] ++ flat (B.map (emp mv))) := by
      have h1 : A.map (emp (mv ++ [(o.at_, x)])) = A.map (emp mv) := List.map_congr_left hA
      have h2 : B.map (emp (mv ++ [(o.at_, x)])) = B.map (emp mv) := List.map_congr_left hB
      conv => lhs; rw [hsp, List.map_append, List.map_cons, ho2, h1, h2, flat_append]
      rw [show flat ((⟨o.at_, 1, 0, ByteArray.empty, []⟩ : Obj) :: B.map (emp mv)) = encW ⟨o.at_, 1, 0, ByteArray.empty, []⟩ ++ flat (B.map (emp mv)) from rfl, enc_big]
    have h2 := cell_enc (hL.2 o ho).1 hc
    rw [e1, e2, ha, Int.toNat_natCast, ← hAl]
    generalize flat (A.map (emp mv)) = FA
    generalize flat (B.map (emp mv)) = FB
    generalize encW o = E at h2
    have ht : ([1, 0] : List Int).take ((FA ++ (E ++ FB)).length - FA.length) = [1, 0] := List.take_of_length_le (by simp; omega)
    rw [ht]
    unfold over
    rw [List.take_left' rfl, List.append_assoc]
    congr 2
    rw [List.drop_append, List.drop_of_length_le (by simp), List.nil_append, show FA.length + ([1, 0] : List Int).length - FA.length = 2 by simp, List.drop_left' h2]
  · have hcf : (o.kind == 5 && (o.parts.length : Int) == 1) = false := by simpa using hc
    rw [if_neg hc]
    congr 1
    refine List.map_congr_left fun y hy => ?_
    by_cases e : y.at_ = o.at_
    · have : y = o := placed_inj hL hy ho e
      subst this
      rw [emp_no hcf, emp_no hcf]
    · exact (other y hy e).symm
end Go.Proofs.Ytagphggcdmjlpaa.P

/- What is left, and the cells on both sides: plain facts, ready for the walks. -/
namespace Go.Proofs.Ytagphggcdmjlpaa.P
open Go.Ab Go.Proofs.Ytagphggcdmjlpaa.T

def LeftOk (LO : List Obj) (S : CT) : Prop := S.1 = flat (LO.map (emp S.2.2))

theorem putK_left {S S' : CT} {o : Obj} {x : Int} (hp : putK S o = ((x, 0), S')) : S'.1 = leftK S.1 o := by
  unfold putK at hp
  split at hp
  · rename_i h
    have := (Prod.mk.inj (Prod.mk.inj hp).1).2
    rw [this] at h
    exact absurd h (by simp)
  · rw [← (Prod.mk.inj hp).2]

theorem parts_left {g : List Int} {L LO : List Obj} {F : CT → Int → (Int × Int) × CT} : ∀ (ps acc : List Int) (S S' : CT) (acc' : List Int), (∀ p, p ∈ ps → ∀ S x S', InvK g L S → LeftOk LO S → F S p = ((x, 0), S') → InvK g L S' ∧ LeftOk LO S') → InvK g L S → LeftOk LO S →
    partsK F S ps acc = ((acc', 0), S') → LeftOk LO S'
  | [], acc, S, S', acc', _, _, hl, h => by
    have e : partsK F S [] acc = ((acc, 0), S) := rfl
    rw [e] at h
    cases h
    exact hl
  | p :: l, acc, S, S', acc', hF, hi, hl, h => by
    rw [parts_consK] at h
    split at h
    · rename_i he
      have := (Prod.mk.inj (Prod.mk.inj h).1).2
      rw [this] at he
      exact absurd he (by simp)
    · rename_i he
      have he0 : (F S p).1.2 = 0 := by simpa using he
      obtain ⟨h1, h2⟩ := hF p List.mem_cons_self S (F S p).1.1 (F S p).2 hi hl (by rw [← he0])
      exact parts_left l _ _ S' acc' (fun q hq => hF q (List.mem_cons_of_mem _ hq)) h1 h2 h

theorem left_inv {g : List Int} (hg4 : g.length ≤ 4000) (hgo : ∀ w, w ∈ g → WordOk w) {L LO : List Obj} (hLO : Placed LO) (hg : g = flat LO) : ∀ (n : Nat) (S : CT) (w x : Int) (S' : CT), InvK g L S → LeftOk LO S → (∀ a, ReachK g w a → ∃ o, o ∈ LO ∧ o.at_ = a) →
    wordK g n S w = ((x, 0), S') → LeftOk LO S' := by
  intro n
  induction n with
  | zero =>
    intro S w x S' hi hl hb h
    by_cases hc : ((readS w).2.2 != 0 || (readS w).1 != 4) = true
    · rw [wordK_triv 0 hc] at h
      rw [← (Prod.mk.inj h).2]; exact hl
    · cases hk : lk S.2.2 (readS w).2.1 with
      | some z =>
        rw [wordK_done 0 hc hk] at h
        rw [← (Prod.mk.inj h).2]; exact hl
      | none =>
        rw [wordK_deep hc hk] at h
        cases h
  | succ n ih =>
    intro S w x S' hi hl hb h
    by_cases hc : ((readS w).2.2 != 0 || (readS w).1 != 4) = true
    · rw [wordK_triv _ hc] at h
      rw [← (Prod.mk.inj h).2]; exact hl
    · have hp : (placeS w).2.1 = true := by rw [place_cond]; simpa using hc
      cases hk : lk S.2.2 (readS w).2.1 with
      | some z =>
        rw [wordK_done _ hc hk] at h
        rw [← (Prod.mk.inj h).2]; exact hl
      | none =>
        by_cases he : ((atS g (readS w).2.1).2 != 0) = true
        · rw [wordK_none hc hk he] at h
          have := (Prod.mk.inj (Prod.mk.inj h).1).2
          rw [this] at he
          exact absurd he (by simp)
        · have he0 : (atS g (readS w).2.1).2 = 0 := by simpa using he
          generalize hA : atS g (readS w).2.1 = A at he0
          obtain ⟨o, e⟩ := A
          simp only at he0
          subst he0
          rw [wordK_obj hc hk hA] at h
          have hA' : atS g (placeS w).1 = (o, 0) := hA
          generalize hPQ : partsK (wordK g n) S o.parts [] = PQ at h
          obtain ⟨⟨acc, e⟩, S1⟩ := PQ
          by_cases hne : (e != 0) = true
          · rw [objK_err hne] at h
            have := (Prod.mk.inj (Prod.mk.inj h).1).2
            rw [this] at hne
            exact absurd hne (by simp)
          · have hee : e = 0 := by simpa using hne
            subst hee
            rw [objK_ok] at h
            simp only at h
            have hF : ∀ p, p ∈ o.parts → ∀ S x S', InvK g L S → LeftOk LO S → wordK g n S p = ((x, 0), S') → InvK g L S' ∧ LeftOk LO S' := fun p hpm S x S' hi hl h =>
              ⟨(word_inv hg4 hgo n S p x S' hi h).1, ih S p x S' hi hl (fun a ha => hb a (.part hp hA' hpm ha)) h⟩
            have hl1 := parts_left o.parts [] S S1 acc hF hi hl hPQ
            obtain ⟨b1, b2, b3, b4, b5⟩ := parts_inv o.parts [] S S1 acc (fun p _ S x S' hi h => word_inv hg4 hgo n S p x S' hi h) hi hPQ
            obtain ⟨m, m1, m2, m3, m4, m5⟩ := obj_of hg4 hgo hA'
            have hgood : GoodK g (placeS w).1 := .mk hA' fun p hpm hpi => (b4 p hpm).2 hpi
            have hk1 : lk S1.2.2 (placeS w).1 = none := by
              cases hx : lk S1.2.2 (placeS w).1 with
              | none => rfl
              | some z =>
                obtain ⟨p, hpm, hr⟩ := b5 _ z hx hk
                exact absurd (reach_behind hr hA' hpm) (good_behind hgood)
            have hpl := putK_left h
            rw [b3, List.nil_append] at h hpl
            obtain ⟨c1, c2⟩ := put_inv b1 hA' (by rw [m2, m1]) m3 hgood (fun p hpm => (b4 p hpm).1) hk1 h
            obtain ⟨o0, ho0, hoa⟩ := hb _ (.here hp)
            have heq : o0 = o := by
              have := at_placed hLO ho0
              rw [← hg, hoa, hA'] at this
              exact (Prod.mk.inj this).1.symm
            subst heq
            unfold LeftOk at hl1 ⊢
            rw [hpl, c2, hl1, ← hoa]
            have e1 : leftK (flat (LO.map (emp S1.2.2))) { o0 with parts := o0.parts.map (phiK S1.2.2) } = leftK (flat (LO.map (emp S1.2.2))) o0 := by
              unfold leftK
              simp only [List.length_map]
            rw [e1]
            exact emp_put hLO ho0 x (by rw [hoa]; exact hk1)

theorem left_start {g : List Int} {LO : List Obj} (hg : g = flat LO) (t : List Int) : LeftOk LO (g, t, []) := by
  have : LO.map (emp []) = LO := by
    conv => rhs; rw [← List.map_id LO]
    exact List.map_congr_left fun o _ => emp_none rfl
  unfold LeftOk
  rw [this]; exact hg

theorem left_same {LO : List Obj} {mv : List (Int × Int)} (h : ∀ o, o ∈ LO → (lk mv o.at_).isSome = true → (o.kind == 5) = false) : LO.map (emp mv) = LO := by
  conv => rhs; rw [← List.map_id LO]
  refine List.map_congr_left fun o ho => ?_
  cases hs : (lk mv o.at_).isSome with
  | false => exact emp_none (by simpa using hs)
  | true => exact emp_no (by rw [h o ho hs, Bool.false_and])

theorem reach_fwd {g b : List Int} {mv : List (Int × Int)} {w0 w a : Int} (hs : ShrK g b mv w0) (hr : ReachK g w a) : KnownK mv w → ∃ y, lk mv a = some y ∧ ReachK b (phiK mv w) (placeS y).1 := by
  induction hr with
  | @here w hi =>
    intro hk
    obtain ⟨x, hx⟩ := hk.2 hi
    obtain ⟨t, q, o, t1, t2, _⟩ := hs.to hx
    refine ⟨x, hx, ?_⟩
    rw [phiK_some hi hx]
    exact .here (by rw [t2, place_word t1])
  | @part w p c o hi ho hp hr ih =>
    intro hk
    obtain ⟨x, hx⟩ := hk.2 hi
    obtain ⟨t, q, o2, t1, t2, t3, t4, t5, t6, t7, t8, t9⟩ := hs.to hx
    rw [ho] at t3
    cases (Prod.mk.inj t3).1
    obtain ⟨y, hy1, hy2⟩ := ih (t9 p hp)
    refine ⟨y, hy1, ?_⟩
    rw [phiK_some hi hx]
    have hpx : placeS x = ((t : Int), true, 0) := by rw [t2]; exact place_word t1
    exact .part (o := q) (p := phiK mv p) (by rw [hpx]) (by rw [hpx]; exact t4) (by rw [t8]; exact List.mem_map.2 ⟨p, hp, rfl⟩) hy2

end Go.Proofs.Ytagphggcdmjlpaa.P

/- Alike: the walk. -/
namespace Go.Proofs.Ytagphggcdmjlpaa.P
open Go.Ab Go.Proofs.Ytagphggcdmjlpaa.T

theorem ShrK.len {g b : List Int} {mv : List (Int × Int)} {w0 : Int} (h : ShrK g b mv w0) : mv.length ≤ 4000 := by
  have := nodup_len (B := (List.range 4000).map Int.ofNat) h.nd fun a ha => by
    obtain ⟨x, hx⟩ := lk_key ha
    obtain ⟨t, q, o, _, _, e, _⟩ := h.to hx
    obtain ⟨n, n1, _, _, n4, _⟩ := obj_of h.g4 h.go e
    have h0 := h.g4
    have h1 : 1 ≤ (encW o).length := by unfold encW; simp
    rw [n1]
    exact List.mem_map.2 ⟨n, List.mem_range.2 (by omega), rfl⟩
  simpa using this


end Go.Proofs.Ytagphggcdmjlpaa.P

