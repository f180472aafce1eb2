/- Texts of this proof, joined: Y13, Y14, Y15, Y16, Y17, Y18, Y19, Y20, Y21, YJ. -/
import Derived.Test.YtagphggcdmjlpaaKYoungSets4
set_option linter.unusedSimpArgs false
set_option linter.unusedVariables false
set_option maxHeartbeats 1000000
/- Major and Minor: contracts. -/
namespace Go.Proofs.Ytagphggcdmjlpaa.P
open Go.Ab Go.Proofs.Ytagphggcdmjlpaa.T

theorem roots_len (g : List Int) (low : Int) : ∀ (ws : List Int) (S : CS), (rootsC g low S ws).1.length = ws.length
  | [], _ => rfl
  | w :: l, S => by rw [rootsC, List.length_cons, roots_len g low l, List.length_cons]


theorem majorBad (h : List Int) (old e : Int) (late ws : List Int) (he : (e != 0) = true) (hnm : ACallP Try.prog 66 [agesD h old late, words ws] (iD e)) : ACallP Try.prog 39 [agesD h old late, words ws] (.tup [zagesD, words [], iD e]) := by
  refine acallp_fnv [.cell 4 64, .tmp 5, .tmp 6] Try.func39 rfl rfl Try.ntmps39 (by simp) fun R hR => ?_
  (refine awp_reg_seq [1, 2, 4] fun K hK => ?_; (repeat' ((refine al_r rfl fun K' hK' => ?_); (repeat (simp only [go_sem, simprocAttr, he])); ((refine hK' _ _ ?_) <;> clear hK' K'))); all_goals (refine al_nil ?_; (simp only [go_sem, simprocAttr, he]); refine hK _ ?_; clear hK K))
  (refine awp_frz [1, 2, 4] [1] (by decide) (by (simp; done)) ?_; simp only [go_sem, simprocAttr, he])
  refine awp_seq_k fun K hK => ?_
  (refine awp_reg_seq [1, 2, 4, 7] fun K hK => ?_; (repeat' ((refine al_r rfl fun K' hK' => ?_); (repeat (simp only [go_sem, simprocAttr, he])); (first | ((refine hK' _ _ ?_) <;> clear hK' K') | ((show AC _ _ (D.fn 66 _) _ _); refine acall_g (f := 66) (e := rfl) (hr := rfl) (hf := by simp [D.all, D.allL, flatL, flatPV]) (k := hK' _ _ ?_) (hc := Try.call66) (h := hnm); clear hK' K')))); all_goals (refine al_nil ?_; (simp only [go_sem, simprocAttr, he]); refine hK _ ?_; clear hK K))
  (refine awp_reg_seq [1, 2, 4, 7, 14] fun K hK => ?_; (repeat' ((refine al_r rfl fun K' hK' => ?_); (repeat (simp only [go_sem, simprocAttr, he])); ((refine hK' _ _ ?_) <;> clear hK' K'))); all_goals (refine al_nil ?_; (simp only [go_sem, simprocAttr, he]); refine hK _ ?_; clear hK K))
  refine awp_if (_) rfl (fun hc => ?_) (fun hc => ?_)
  · (refine awp_reg_seq [4, 5, 6] fun K hK => ?_; (repeat' ((first | refine al_r rfl fun K' hK' => ?_ | refine al_d rfl fun K' hK' => ?_); (repeat (first | (simp only [go_sem, simprocAttr, he]) | refine AS.mk ?_)); ((first | refine hK' _ _ ?_ | refine ⟨?_, hK' _ _ ?_⟩) <;> clear hK' K' <;> (first | (show alist _ _ _ _ _ _; skip) | (simp; done))))); all_goals (refine al_nil ?_; (simp only [go_sem, simprocAttr, he]); refine hK _ ?_; clear hK K))
    refine awp_ret ?_; refine hR _ _ (.inl rfl) rfl ?_
    simp only [go_sem, simprocAttr, he, List.map_nil]
    rfl
  · cases hc


theorem minorBad (h : List Int) (old e : Int) (late ws : List Int) (he : (e != 0) = true) (hnm : ACallP Try.prog 66 [agesD h old late, words ws] (iD e)) : ACallP Try.prog 38 [agesD h old late, words ws] (.tup [zagesD, words [], iD e]) := by
  refine acallp_fnv [.cell 4 64, .tmp 5, .tmp 6] Try.func38 rfl rfl Try.ntmps38 (by simp) fun R hR => ?_
  (refine awp_reg_seq [1, 2, 4] fun K hK => ?_; (repeat' ((refine al_r rfl fun K' hK' => ?_); (repeat (simp only [go_sem, simprocAttr, he])); ((refine hK' _ _ ?_) <;> clear hK' K'))); all_goals (refine al_nil ?_; (simp only [go_sem, simprocAttr, he]); refine hK _ ?_; clear hK K))
  (refine awp_frz [1, 2, 4] [1] (by decide) (by (simp; done)) ?_; simp only [go_sem, simprocAttr, he])
  refine awp_seq_k fun K hK => ?_
  (refine awp_reg_seq [1, 2, 4, 7] fun K hK => ?_; (repeat' ((refine al_r rfl fun K' hK' => ?_); (repeat (simp only [go_sem, simprocAttr, he])); (first | ((refine hK' _ _ ?_) <;> clear hK' K') | ((show AC _ _ (D.fn 66 _) _ _); refine acall_g (f := 66) (e := rfl) (hr := rfl) (hf := by simp [D.all, D.allL, flatL, flatPV]) (k := hK' _ _ ?_) (hc := Try.call66) (h := hnm); clear hK' K')))); all_goals (refine al_nil ?_; (simp only [go_sem, simprocAttr, he]); refine hK _ ?_; clear hK K))
  (refine awp_reg_seq [1, 2, 4, 7, 14] fun K hK => ?_; (repeat' ((refine al_r rfl fun K' hK' => ?_); (repeat (simp only [go_sem, simprocAttr, he])); ((refine hK' _ _ ?_) <;> clear hK' K'))); all_goals (refine al_nil ?_; (simp only [go_sem, simprocAttr, he]); refine hK _ ?_; clear hK K))
  refine awp_if (_) rfl (fun hc => ?_) (fun hc => ?_)
  · (refine awp_reg_seq [4, 5, 6] fun K hK => ?_; (repeat' ((first | refine al_r rfl fun K' hK' => ?_ | refine al_d rfl fun K' hK' => ?_); (repeat (first | (simp only [go_sem, simprocAttr, he]) | refine AS.mk ?_)); ((first | refine hK' _ _ ?_ | refine ⟨?_, hK' _ _ ?_⟩) <;> clear hK' K' <;> (first | (show alist _ _ _ _ _ _; skip) | (simp; done))))); all_goals (refine al_nil ?_; (simp only [go_sem, simprocAttr, he]); refine hK _ ?_; clear hK K))
    refine awp_ret ?_; refine hR _ _ (.inl rfl) rfl ?_
    simp only [go_sem, simprocAttr, he, List.map_nil]
    rfl
  · cases hc


set_option maxRecDepth 100000 in
theorem majorGood (h : List Int) (old : Int) (late ws : List Int) (f : Nat) (hnm : ACallP Try.prog 66 [agesD h old late, words ws] (iD 0)) (hg : h.length ≤ maxLen) (hok : ∀ w, w ∈ h → WordOk w) (hws : ws.length ≤ 100000)
    (h2 : rootsOK h 0 ([], []) ws) (h3 : scanOK h 0 f (rootsC h 0 ([], []) ws).2 0) :
    ACallP Try.prog 39 [agesD h old late, words ws] (.tup [.agg [words (scanC h 0 f (rootsC h 0 ([], []) ws).2 0).1, iD (scanC h 0 f (rootsC h 0 ([], []) ws).2 0).1.length, .p (.sl [])], words (rootsC h 0 ([], []) ws).1, iD 0]) := by
  have hrun0 := runCc h 0 ([], []) [] ws f hg hok (by simp) (by simp [maxLen]) hws (by simp [lateOK]) h2 h3
  have hrun : ACalls Try.prog 73 [.ptr 0 0 0, .nil, words ws] _ _ := ACalls.soft hrun0
  clear hrun0 h3 h2
  rw [late_nil] at hrun
  have hBl := roots_len h 0 ws ([], [])
  generalize rootsC h 0 ([], []) ws = B at hrun hBl ⊢
  have htB : List.take ws.length (B.1.map wrow) = B.1.map wrow := List.take_of_length_le (by simp [hBl])
  have e0 : ((([], []) : CS).1.length) = 0 := rfl
  rw [e0] at hrun
  generalize scanC h 0 f B.2 0 = C at hrun ⊢
  have htC : List.take C.1.length (C.1.map wrow) = C.1.map wrow := List.take_of_length_le (by simp)
  refine acallp_fnv [.cell 4 64, .tmp 5, .tmp 6] Try.func39 rfl rfl Try.ntmps39 (by simp) fun R hR => ?_
  (refine awp_reg_seq [1, 2, 4] fun K hK => ?_; (repeat' ((refine al_r rfl fun K' hK' => ?_); (repeat (simp only [go_sem, simprocAttr, bne_self_eq_false, List.length_map])); ((refine hK' _ _ ?_) <;> clear hK' K'))); all_goals (refine al_nil ?_; (simp only [go_sem, simprocAttr, bne_self_eq_false, List.length_map]); refine hK _ ?_; clear hK K))
  (refine awp_frz [1, 2, 4] [1] (by decide) (by (simp; done)) ?_; simp only [go_sem, simprocAttr, bne_self_eq_false, List.length_map])
  refine awp_seq_k fun K hK => ?_
  (refine awp_reg_seq [1, 2, 4, 7] fun K hK => ?_; (repeat' ((refine al_r rfl fun K' hK' => ?_); (repeat (simp only [go_sem, simprocAttr, bne_self_eq_false, List.length_map])); (first | ((refine hK' _ _ ?_) <;> clear hK' K') | ((show AC _ _ (D.fn 66 _) _ _); refine acall_g (f := 66) (e := rfl) (hr := rfl) (hf := by simp [D.all, D.allL, flatL, flatPV]) (k := hK' _ _ ?_) (hc := Try.call66) (h := hnm); clear hK' K')))); all_goals (refine al_nil ?_; (simp only [go_sem, simprocAttr, bne_self_eq_false, List.length_map]); refine hK _ ?_; clear hK K))
  (refine awp_reg_seq [1, 2, 4, 7, 14] fun K hK => ?_; (repeat' ((refine al_r rfl fun K' hK' => ?_); (repeat (simp only [go_sem, simprocAttr, bne_self_eq_false, List.length_map])); ((refine hK' _ _ ?_) <;> clear hK' K'))); all_goals (refine al_nil ?_; (simp only [go_sem, simprocAttr, bne_self_eq_false, List.length_map]); refine hK _ ?_; clear hK K))
  refine awp_if (_) rfl (fun hc => ?_) (fun hc => ?_)
  · cases hc
  · refine awp_skip ?_
    refine hK _ ?_; clear hK K
    (refine awp_reg_seq [1, 4, 8] fun K hK => ?_; (repeat' ((refine al_r rfl fun K' hK' => ?_); (repeat (simp only [go_sem, simprocAttr, bne_self_eq_false, List.length_map])); ((refine hK' _ _ ?_) <;> clear hK' K'))); all_goals (refine al_nil ?_; (simp only [go_sem, simprocAttr, bne_self_eq_false, List.length_map]); refine hK _ ?_; clear hK K))
    refine awp_born_box 2 2 1 rfl rfl ?_
    simp only [go_sem, simprocAttr, bne_self_eq_false, List.length_map]
    (refine awp_reg_seq [4, 8, 9] fun K hK => ?_; (repeat' ((refine al_r rfl fun K' hK' => ?_); (repeat (simp only [go_sem, simprocAttr, bne_self_eq_false, List.length_map])); (first | ((refine hK' _ _ ?_) <;> clear hK' K') | ((show AC _ _ (D.fn 73 _) _ _); refine acall_m (f := 73) [2, 3, 1] Try.call73 hrun rfl rfl (by decide) (by simp) ?_; rintro r obs' ⟨rfl, rfl⟩; refine ⟨by simp, ?_⟩; (simp only [go_sem, simprocAttr, bne_self_eq_false, List.length_map]); refine hK' _ _ ?_; clear hK' K')))); all_goals (refine al_nil ?_; (simp only [go_sem, simprocAttr, bne_self_eq_false, List.length_map]); refine hK _ ?_; clear hK K))
    refine awp_draw_seq (by kernel_rfl) [4, 5, 6] fun K hK => ?_
    ((refine ah_r 0 rfl (by kernel_rfl) rfl fun K' hK' => ?_); (simp only [go_sem, simprocAttr, bne_self_eq_false, List.length_map]); ((refine hK' _ ?_); clear hK' K'))
    ((refine ah_r 4 rfl (by kernel_rfl) rfl fun K' hK' => ?_); (simp only [go_sem, simprocAttr, bne_self_eq_false, List.length_map]); ((refine hK' _ ?_); clear hK' K'))
    ((refine ah_r 10 rfl (by kernel_rfl) rfl fun K' hK' => ?_); (simp only [go_sem, simprocAttr, bne_self_eq_false, List.length_map]); ((refine hK' _ ?_); clear hK' K'))
    refine ah_two 1 5 rfl rfl (by kernel_rfl) ?_ ?_
    · ((repeat' ((refine al_r rfl fun K' hK' => ?_); (repeat (simp only [go_sem, simprocAttr, bne_self_eq_false, List.length_map])); ((refine hK' _ _ ?_) <;> clear hK' K'))); all_goals refine al_nil ?_)
      ((refine ah_r 2 rfl (by kernel_rfl) rfl fun K' hK' => ?_); (simp only [go_sem, simprocAttr, bne_self_eq_false, List.length_map]); ((refine hK' _ ?_); clear hK' K'))
      refine ah_two 3 5 rfl rfl (by kernel_rfl) ?_ ?_
      · ((repeat' ((refine al_r rfl fun K' hK' => ?_); (repeat (simp only [go_sem, simprocAttr, bne_self_eq_false, List.length_map])); ((refine hK' _ _ ?_) <;> clear hK' K'))); all_goals refine al_nil ?_)
        (refine ah_one 5 rfl (by kernel_rfl) ?_; (repeat' ((refine al_r rfl fun K' hK' => ?_); (repeat (simp only [go_sem, simprocAttr, bne_self_eq_false, List.length_map])); ((refine hK' _ _ ?_) <;> clear hK' K'))); all_goals refine al_nil ?_)
        ((refine ah_r 6 rfl (by kernel_rfl) rfl fun K' hK' => ?_); (simp only [go_sem, simprocAttr, bne_self_eq_false, List.length_map]); ((refine hK' _ ?_); clear hK' K'))
        (refine ah_one 7 rfl (by kernel_rfl) ?_; (repeat' ((refine al_r rfl fun K' hK' => ?_); (repeat (simp only [go_sem, simprocAttr, bne_self_eq_false, List.length_map])); ((refine hK' _ _ ?_) <;> clear hK' K'))); all_goals refine al_nil ?_)
        ((refine ah_r 8 rfl (by kernel_rfl) rfl fun K' hK' => ?_); (simp only [go_sem, simprocAttr, bne_self_eq_false, List.length_map]); ((refine ⟨?_, hK' _ ?_⟩) <;> clear hK' K' <;> (first | (intro s hs; cases hs; done) | skip)))
        (refine ah_one 9 rfl (by kernel_rfl) ?_; (repeat' ((refine al_r rfl fun K' hK' => ?_); (repeat (simp only [go_sem, simprocAttr, bne_self_eq_false, List.length_map])); ((refine hK' _ _ ?_) <;> clear hK' K'))); all_goals refine al_nil ?_)
        (refine ah_one 11 rfl (by kernel_rfl) ?_; (repeat' ((refine al_d rfl fun K' hK' => ?_); (repeat (first | (simp only [go_sem, simprocAttr, bne_self_eq_false, List.length_map]) | refine AS.mk ?_)); ((refine ⟨?_, hK' _ _ ?_⟩) <;> clear hK' K' <;> (first | (show alist _ _ _ _ _ _; skip) | (simp; done))))); all_goals refine al_nil ?_)
        ((refine ah_r 12 rfl (by kernel_rfl) rfl fun K' hK' => ?_); (simp only [go_sem, simprocAttr, bne_self_eq_false, List.length_map]); ((refine hK' _ ?_); clear hK' K'))
        ((refine ah_r 13 rfl (by kernel_rfl) rfl fun K' hK' => ?_); (simp only [go_sem, simprocAttr, bne_self_eq_false, List.length_map]); ((refine hK' _ ?_); clear hK' K'))
        (refine ah_done (by kernel_rfl) ?_; (simp only [go_sem, simprocAttr, bne_self_eq_false, List.length_map]); refine hK _ ?_; clear hK K)
        refine awp_ret ?_; refine hR _ _ (.inl rfl) rfl ?_
        simp only [go_sem, simprocAttr, bne_self_eq_false, List.length_map, htC, htB]
      · ((repeat' ((refine al_r rfl fun K' hK' => ?_); (repeat (simp only [go_sem, simprocAttr, bne_self_eq_false, List.length_map])); ((refine hK' _ _ ?_) <;> clear hK' K'))); all_goals refine al_nil ?_)
        ((refine ah_r 6 rfl (by kernel_rfl) rfl fun K' hK' => ?_); (simp only [go_sem, simprocAttr, bne_self_eq_false, List.length_map]); ((refine hK' _ ?_); clear hK' K'))
        refine ah_two 3 7 rfl rfl (by kernel_rfl) ?_ ?_
        · ((repeat' ((refine al_r rfl fun K' hK' => ?_); (repeat (simp only [go_sem, simprocAttr, bne_self_eq_false, List.length_map])); ((refine hK' _ _ ?_) <;> clear hK' K'))); all_goals refine al_nil ?_)
          (refine ah_one 7 rfl (by kernel_rfl) ?_; (repeat' ((refine al_r rfl fun K' hK' => ?_); (repeat (simp only [go_sem, simprocAttr, bne_self_eq_false, List.length_map])); ((refine hK' _ _ ?_) <;> clear hK' K'))); all_goals refine al_nil ?_)
          ((refine ah_r 8 rfl (by kernel_rfl) rfl fun K' hK' => ?_); (simp only [go_sem, simprocAttr, bne_self_eq_false, List.length_map]); ((refine ⟨?_, hK' _ ?_⟩) <;> clear hK' K' <;> (first | (intro s hs; cases hs; done) | skip)))
          (refine ah_one 9 rfl (by kernel_rfl) ?_; (repeat' ((refine al_r rfl fun K' hK' => ?_); (repeat (simp only [go_sem, simprocAttr, bne_self_eq_false, List.length_map])); ((refine hK' _ _ ?_) <;> clear hK' K'))); all_goals refine al_nil ?_)
          (refine ah_one 11 rfl (by kernel_rfl) ?_; (repeat' ((refine al_d rfl fun K' hK' => ?_); (repeat (first | (simp only [go_sem, simprocAttr, bne_self_eq_false, List.length_map]) | refine AS.mk ?_)); ((refine ⟨?_, hK' _ _ ?_⟩) <;> clear hK' K' <;> (first | (show alist _ _ _ _ _ _; skip) | (simp; done))))); all_goals refine al_nil ?_)
          ((refine ah_r 12 rfl (by kernel_rfl) rfl fun K' hK' => ?_); (simp only [go_sem, simprocAttr, bne_self_eq_false, List.length_map]); ((refine hK' _ ?_); clear hK' K'))
          ((refine ah_r 13 rfl (by kernel_rfl) rfl fun K' hK' => ?_); (simp only [go_sem, simprocAttr, bne_self_eq_false, List.length_map]); ((refine hK' _ ?_); clear hK' K'))
          (refine ah_done (by kernel_rfl) ?_; (simp only [go_sem, simprocAttr, bne_self_eq_false, List.length_map]); refine hK _ ?_; clear hK K)
          refine awp_ret ?_; refine hR _ _ (.inl rfl) rfl ?_
          simp only [go_sem, simprocAttr, bne_self_eq_false, List.length_map, htC, htB]
        · ((repeat' ((refine al_r rfl fun K' hK' => ?_); (repeat (simp only [go_sem, simprocAttr, bne_self_eq_false, List.length_map])); ((refine hK' _ _ ?_) <;> clear hK' K'))); all_goals refine al_nil ?_)
          ((refine ah_r 8 rfl (by kernel_rfl) rfl fun K' hK' => ?_); (simp only [go_sem, simprocAttr, bne_self_eq_false, List.length_map]); ((refine ⟨?_, hK' _ ?_⟩) <;> clear hK' K' <;> (first | (intro s hs; cases hs; done) | skip)))
          (refine ah_one 3 rfl (by kernel_rfl) ?_; (repeat' ((refine al_r rfl fun K' hK' => ?_); (repeat (simp only [go_sem, simprocAttr, bne_self_eq_false, List.length_map])); ((refine hK' _ _ ?_) <;> clear hK' K'))); all_goals refine al_nil ?_)
          (refine ah_one 9 rfl (by kernel_rfl) ?_; (repeat' ((refine al_r rfl fun K' hK' => ?_); (repeat (simp only [go_sem, simprocAttr, bne_self_eq_false, List.length_map])); ((refine hK' _ _ ?_) <;> clear hK' K'))); all_goals refine al_nil ?_)
          (refine ah_one 11 rfl (by kernel_rfl) ?_; (repeat' ((refine al_d rfl fun K' hK' => ?_); (repeat (first | (simp only [go_sem, simprocAttr, bne_self_eq_false, List.length_map]) | refine AS.mk ?_)); ((refine ⟨?_, hK' _ _ ?_⟩) <;> clear hK' K' <;> (first | (show alist _ _ _ _ _ _; skip) | (simp; done))))); all_goals refine al_nil ?_)
          ((refine ah_r 12 rfl (by kernel_rfl) rfl fun K' hK' => ?_); (simp only [go_sem, simprocAttr, bne_self_eq_false, List.length_map]); ((refine hK' _ ?_); clear hK' K'))
          ((refine ah_r 13 rfl (by kernel_rfl) rfl fun K' hK' => ?_); (simp only [go_sem, simprocAttr, bne_self_eq_false, List.length_map]); ((refine hK' _ ?_); clear hK' K'))
          (refine ah_done (by kernel_rfl) ?_; (simp only [go_sem, simprocAttr, bne_self_eq_false, List.length_map]); refine hK _ ?_; clear hK K)
          refine awp_ret ?_; refine hR _ _ (.inl rfl) rfl ?_
          simp only [go_sem, simprocAttr, bne_self_eq_false, List.length_map, htC, htB]
    · ((repeat' ((refine al_r rfl fun K' hK' => ?_); (repeat (simp only [go_sem, simprocAttr, bne_self_eq_false, List.length_map])); ((refine hK' _ _ ?_) <;> clear hK' K'))); all_goals refine al_nil ?_)
      ((refine ah_r 6 rfl (by kernel_rfl) rfl fun K' hK' => ?_); (simp only [go_sem, simprocAttr, bne_self_eq_false, List.length_map]); ((refine hK' _ ?_); clear hK' K'))
      refine ah_two 1 7 rfl rfl (by kernel_rfl) ?_ ?_
      · ((repeat' ((refine al_r rfl fun K' hK' => ?_); (repeat (simp only [go_sem, simprocAttr, bne_self_eq_false, List.length_map])); ((refine hK' _ _ ?_) <;> clear hK' K'))); all_goals refine al_nil ?_)
        ((refine ah_r 2 rfl (by kernel_rfl) rfl fun K' hK' => ?_); (simp only [go_sem, simprocAttr, bne_self_eq_false, List.length_map]); ((refine hK' _ ?_); clear hK' K'))
        refine ah_two 3 7 rfl rfl (by kernel_rfl) ?_ ?_
        · ((repeat' ((refine al_r rfl fun K' hK' => ?_); (repeat (simp only [go_sem, simprocAttr, bne_self_eq_false, List.length_map])); ((refine hK' _ _ ?_) <;> clear hK' K'))); all_goals refine al_nil ?_)
          (refine ah_one 7 rfl (by kernel_rfl) ?_; (repeat' ((refine al_r rfl fun K' hK' => ?_); (repeat (simp only [go_sem, simprocAttr, bne_self_eq_false, List.length_map])); ((refine hK' _ _ ?_) <;> clear hK' K'))); all_goals refine al_nil ?_)
          ((refine ah_r 8 rfl (by kernel_rfl) rfl fun K' hK' => ?_); (simp only [go_sem, simprocAttr, bne_self_eq_false, List.length_map]); ((refine ⟨?_, hK' _ ?_⟩) <;> clear hK' K' <;> (first | (intro s hs; cases hs; done) | skip)))
          (refine ah_one 9 rfl (by kernel_rfl) ?_; (repeat' ((refine al_r rfl fun K' hK' => ?_); (repeat (simp only [go_sem, simprocAttr, bne_self_eq_false, List.length_map])); ((refine hK' _ _ ?_) <;> clear hK' K'))); all_goals refine al_nil ?_)
          (refine ah_one 11 rfl (by kernel_rfl) ?_; (repeat' ((refine al_d rfl fun K' hK' => ?_); (repeat (first | (simp only [go_sem, simprocAttr, bne_self_eq_false, List.length_map]) | refine AS.mk ?_)); ((refine ⟨?_, hK' _ _ ?_⟩) <;> clear hK' K' <;> (first | (show alist _ _ _ _ _ _; skip) | (simp; done))))); all_goals refine al_nil ?_)
          ((refine ah_r 12 rfl (by kernel_rfl) rfl fun K' hK' => ?_); (simp only [go_sem, simprocAttr, bne_self_eq_false, List.length_map]); ((refine hK' _ ?_); clear hK' K'))
          ((refine ah_r 13 rfl (by kernel_rfl) rfl fun K' hK' => ?_); (simp only [go_sem, simprocAttr, bne_self_eq_false, List.length_map]); ((refine hK' _ ?_); clear hK' K'))
          (refine ah_done (by kernel_rfl) ?_; (simp only [go_sem, simprocAttr, bne_self_eq_false, List.length_map]); refine hK _ ?_; clear hK K)
          refine awp_ret ?_; refine hR _ _ (.inl rfl) rfl ?_
          simp only [go_sem, simprocAttr, bne_self_eq_false, List.length_map, htC, htB]
        · ((repeat' ((refine al_r rfl fun K' hK' => ?_); (repeat (simp only [go_sem, simprocAttr, bne_self_eq_false, List.length_map])); ((refine hK' _ _ ?_) <;> clear hK' K'))); all_goals refine al_nil ?_)
          ((refine ah_r 8 rfl (by kernel_rfl) rfl fun K' hK' => ?_); (simp only [go_sem, simprocAttr, bne_self_eq_false, List.length_map]); ((refine ⟨?_, hK' _ ?_⟩) <;> clear hK' K' <;> (first | (intro s hs; cases hs; done) | skip)))
          (refine ah_one 3 rfl (by kernel_rfl) ?_; (repeat' ((refine al_r rfl fun K' hK' => ?_); (repeat (simp only [go_sem, simprocAttr, bne_self_eq_false, List.length_map])); ((refine hK' _ _ ?_) <;> clear hK' K'))); all_goals refine al_nil ?_)
          (refine ah_one 9 rfl (by kernel_rfl) ?_; (repeat' ((refine al_r rfl fun K' hK' => ?_); (repeat (simp only [go_sem, simprocAttr, bne_self_eq_false, List.length_map])); ((refine hK' _ _ ?_) <;> clear hK' K'))); all_goals refine al_nil ?_)
          (refine ah_one 11 rfl (by kernel_rfl) ?_; (repeat' ((refine al_d rfl fun K' hK' => ?_); (repeat (first | (simp only [go_sem, simprocAttr, bne_self_eq_false, List.length_map]) | refine AS.mk ?_)); ((refine ⟨?_, hK' _ _ ?_⟩) <;> clear hK' K' <;> (first | (show alist _ _ _ _ _ _; skip) | (simp; done))))); all_goals refine al_nil ?_)
          ((refine ah_r 12 rfl (by kernel_rfl) rfl fun K' hK' => ?_); (simp only [go_sem, simprocAttr, bne_self_eq_false, List.length_map]); ((refine hK' _ ?_); clear hK' K'))
          ((refine ah_r 13 rfl (by kernel_rfl) rfl fun K' hK' => ?_); (simp only [go_sem, simprocAttr, bne_self_eq_false, List.length_map]); ((refine hK' _ ?_); clear hK' K'))
          (refine ah_done (by kernel_rfl) ?_; (simp only [go_sem, simprocAttr, bne_self_eq_false, List.length_map]); refine hK _ ?_; clear hK K)
          refine awp_ret ?_; refine hR _ _ (.inl rfl) rfl ?_
          simp only [go_sem, simprocAttr, bne_self_eq_false, List.length_map, htC, htB]
      · ((repeat' ((refine al_r rfl fun K' hK' => ?_); (repeat (simp only [go_sem, simprocAttr, bne_self_eq_false, List.length_map])); ((refine hK' _ _ ?_) <;> clear hK' K'))); all_goals refine al_nil ?_)
        ((refine ah_r 8 rfl (by kernel_rfl) rfl fun K' hK' => ?_); (simp only [go_sem, simprocAttr, bne_self_eq_false, List.length_map]); ((refine ⟨?_, hK' _ ?_⟩) <;> clear hK' K' <;> (first | (intro s hs; cases hs; done) | skip)))
        (refine ah_one 1 rfl (by kernel_rfl) ?_; (repeat' ((refine al_r rfl fun K' hK' => ?_); (repeat (simp only [go_sem, simprocAttr, bne_self_eq_false, List.length_map])); ((refine hK' _ _ ?_) <;> clear hK' K'))); all_goals refine al_nil ?_)
        ((refine ah_r 2 rfl (by kernel_rfl) rfl fun K' hK' => ?_); (simp only [go_sem, simprocAttr, bne_self_eq_false, List.length_map]); ((refine hK' _ ?_); clear hK' K'))
        (refine ah_one 3 rfl (by kernel_rfl) ?_; (repeat' ((refine al_r rfl fun K' hK' => ?_); (repeat (simp only [go_sem, simprocAttr, bne_self_eq_false, List.length_map])); ((refine hK' _ _ ?_) <;> clear hK' K'))); all_goals refine al_nil ?_)
        (refine ah_one 9 rfl (by kernel_rfl) ?_; (repeat' ((refine al_r rfl fun K' hK' => ?_); (repeat (simp only [go_sem, simprocAttr, bne_self_eq_false, List.length_map])); ((refine hK' _ _ ?_) <;> clear hK' K'))); all_goals refine al_nil ?_)
        (refine ah_one 11 rfl (by kernel_rfl) ?_; (repeat' ((refine al_d rfl fun K' hK' => ?_); (repeat (first | (simp only [go_sem, simprocAttr, bne_self_eq_false, List.length_map]) | refine AS.mk ?_)); ((refine ⟨?_, hK' _ _ ?_⟩) <;> clear hK' K' <;> (first | (show alist _ _ _ _ _ _; skip) | (simp; done))))); all_goals refine al_nil ?_)
        ((refine ah_r 12 rfl (by kernel_rfl) rfl fun K' hK' => ?_); (simp only [go_sem, simprocAttr, bne_self_eq_false, List.length_map]); ((refine hK' _ ?_); clear hK' K'))
        ((refine ah_r 13 rfl (by kernel_rfl) rfl fun K' hK' => ?_); (simp only [go_sem, simprocAttr, bne_self_eq_false, List.length_map]); ((refine hK' _ ?_); clear hK' K'))
        (refine ah_done (by kernel_rfl) ?_; (simp only [go_sem, simprocAttr, bne_self_eq_false, List.length_map]); refine hK _ ?_; clear hK K)
        refine awp_ret ?_; refine hR _ _ (.inl rfl) rfl ?_
        simp only [go_sem, simprocAttr, bne_self_eq_false, List.length_map, htC, htB]
    skip
end Go.Proofs.Ytagphggcdmjlpaa.P

/- Minor: a contract. -/
namespace Go.Proofs.Ytagphggcdmjlpaa.P
open Go.Ab Go.Proofs.Ytagphggcdmjlpaa.T


set_option maxRecDepth 100000 in
theorem minorGood (h : List Int) (n : Nat) (late ws : List Int) (f : Nat) (hnm : ACallP Try.prog 66 [agesD h n late, words ws] (iD 0)) (hg : h.length ≤ 4000) (hn : n ≤ h.length) (hok : ∀ w, w ∈ h → WordOk w) (hws : ws.length ≤ 100000) (hlate : late.length ≤ maxLen)
    (h1 : lateOK h n (h.take n, []) late) (h2 : rootsOK h n (lateC h n (h.take n, []) late) ws) (h3 : scanOK h n f (rootsC h n (lateC h n (h.take n, []) late) ws).2 n) :
    ACallP Try.prog 38 [agesD h n late, words ws] (.tup [.agg [words (scanC h n f (rootsC h n (lateC h n (h.take n, []) late) ws).2 n).1, iD (scanC h n f (rootsC h n (lateC h n (h.take n, []) late) ws).2 n).1.length, .p (.sl [])], words (rootsC h n (lateC h n (h.take n, []) late) ws).1, iD 0]) := by
  have htl : (h.take n).length = n := by rw [List.length_take]; omega
  have e0 : ((h.take n, []) : CS).1.length = n := htl
  have hrun := runCc h n (h.take n, []) late ws f (by simp [maxLen]; omega) hok (by rw [htl]; omega) hlate hws h1 h2 (by rw [e0]; exact h3)
  unfold copA at hrun
  rw [e0] at hrun
  clear h3 h2 h1
  generalize lateC h n (h.take n, []) late = A at hrun ⊢
  have hBl := roots_len h n ws A
  generalize rootsC h n A ws = B at hrun hBl ⊢
  have htB : List.take ws.length (B.1.map wrow) = B.1.map wrow := List.take_of_length_le (by simp [hBl])
  generalize scanC h n f B.2 n = C at hrun ⊢
  have htC : List.take C.1.length (C.1.map wrow) = C.1.map wrow := List.take_of_length_le (by simp)
  have hcl := cloneH (List.take n (h.map wrow)) (fun x hx => wrow1 h x (List.mem_of_mem_take hx)) (by simp; omega)
  have htn : (List.take n (h.map wrow)).length = n := by simp; omega
  rw [htn, ← List.map_take] at hcl
  have hcl : ACalls Try.prog 43 [.p (.sl (List.take n (h.map wrow)))] [] (fun r obs => r = .ref 0 0 n ∧ obs = [.row 1 ((h.take n).map wrow)]) := by rw [← List.map_take]; exact hcl
  have hn0 : (0 : Int) ≤ (n : Int) := Int.natCast_nonneg n
  have hnl : (n : Int) ≤ (h.length : Int) := by omega
  refine acallp_fnv [.cell 4 64, .tmp 5, .tmp 6] Try.func38 rfl rfl Try.ntmps38 (by simp) fun R hR => ?_
  (refine awp_reg_seq [1, 2, 4] fun K hK => ?_; (repeat' ((refine al_r rfl fun K' hK' => ?_); (repeat (simp only [go_sem, simprocAttr, bne_self_eq_false, List.length_map])); ((refine hK' _ _ ?_) <;> clear hK' K'))); all_goals (refine al_nil ?_; (simp only [go_sem, simprocAttr, bne_self_eq_false, List.length_map]); refine hK _ ?_; clear hK K))
  (refine awp_frz [1, 2, 4] [1] (by decide) (by (simp; done)) ?_; simp only [go_sem, simprocAttr, bne_self_eq_false, List.length_map])
  refine awp_seq_k fun K hK => ?_
  (refine awp_reg_seq [1, 2, 4, 7] fun K hK => ?_; (repeat' ((refine al_r rfl fun K' hK' => ?_); (repeat (simp only [go_sem, simprocAttr, bne_self_eq_false, List.length_map])); (first | ((refine hK' _ _ ?_) <;> clear hK' K') | ((show AC _ _ (D.fn 66 _) _ _); refine acall_g (f := 66) (e := rfl) (hr := rfl) (hf := by simp [D.all, D.allL, flatL, flatPV]) (k := hK' _ _ ?_) (hc := Try.call66) (h := hnm); clear hK' K')))); all_goals (refine al_nil ?_; (simp only [go_sem, simprocAttr, bne_self_eq_false, List.length_map]); refine hK _ ?_; clear hK K))
  (refine awp_reg_seq [1, 2, 4, 7, 14] fun K hK => ?_; (repeat' ((refine al_r rfl fun K' hK' => ?_); (repeat (simp only [go_sem, simprocAttr, bne_self_eq_false, List.length_map])); ((refine hK' _ _ ?_) <;> clear hK' K'))); all_goals (refine al_nil ?_; (simp only [go_sem, simprocAttr, bne_self_eq_false, List.length_map]); refine hK _ ?_; clear hK K))
  refine awp_if (_) rfl (fun hc => ?_) (fun hc => ?_)
  · cases hc
  · refine awp_skip ?_
    refine hK _ ?_; clear hK K

    refine awp_suff ⟨ofL [(1, words ws), (2, .rd [.sl (h.map wrow), .lit (.int .i64 n), .sl (late.map irow)] 0), (4, .ptr 0 0 0), (8, .ptr 1 0 0)], [.box [.nil, iD 0, .nil], .box [words h, iD n, .ref 2 0 n, .mp 3], .row 1 ((h.take n).map wrow), .map []], 0⟩ ?_ (fun keyA => ?_)
    rotate_left
    · refine awp_draw_seq (by kernel_rfl) [1, 2, 4, 8] fun K hK => ?_
      ((refine ah_r 0 rfl (by kernel_rfl) rfl fun K' hK' => ?_); (simp only [go_sem, simprocAttr, bne_self_eq_false, List.length_map, hn0, hnl, Int.toNat_natCast, List.drop_zero]); ((refine hK' _ ?_); clear hK' K'))
      ((refine ah_r 1 rfl (by kernel_rfl) rfl fun K' hK' => ?_); (simp only [go_sem, simprocAttr, bne_self_eq_false, List.length_map, hn0, hnl, Int.toNat_natCast, List.drop_zero]); ((refine hK' _ ?_); clear hK' K'))
      ((refine ah_r 2 rfl (by kernel_rfl) rfl fun K' hK' => ?_); (simp only [go_sem, simprocAttr, bne_self_eq_false, List.length_map, hn0, hnl, Int.toNat_natCast, List.drop_zero]); ((refine hK' _ ?_); clear hK' K'))
      ((refine ah_r 3 rfl (by kernel_rfl) rfl fun K' hK' => ?_); (simp only [go_sem, simprocAttr, bne_self_eq_false, List.length_map, hn0, hnl, Int.toNat_natCast, List.drop_zero]); ((refine hK' _ ?_); clear hK' K'))
      ((refine ah_r 4 rfl (by kernel_rfl) rfl fun K' hK' => ?_); (simp only [go_sem, simprocAttr, bne_self_eq_false, List.length_map, hn0, hnl, Int.toNat_natCast, List.drop_zero]); ((refine hK' _ ?_); clear hK' K'))
      ((refine ah_r 5 rfl (by kernel_rfl) rfl fun K' hK' => ?_); (simp only [go_sem, simprocAttr, bne_self_eq_false, List.length_map, hn0, hnl, Int.toNat_natCast, List.drop_zero]); ((refine hK' _ ?_); clear hK' K'))
      ((refine ah_r 6 rfl (by kernel_rfl) rfl fun K' hK' => ?_); (simp only [go_sem, simprocAttr, bne_self_eq_false, List.length_map, hn0, hnl, Int.toNat_natCast, List.drop_zero]); ((refine hK' _ ?_); clear hK' K'))
      ((refine ah_r 7 rfl (by kernel_rfl) rfl fun K' hK' => ?_); (simp only [go_sem, simprocAttr, bne_self_eq_false, List.length_map, hn0, hnl, Int.toNat_natCast, List.drop_zero]); ((refine hK' _ ?_); clear hK' K'))
      refine ah_two 8 10 rfl rfl (by kernel_rfl) ?_ ?_
      · ((repeat' ((refine al_r rfl fun K' hK' => ?_); (repeat (simp only [go_sem, simprocAttr, bne_self_eq_false, List.length_map, hn0, hnl, Int.toNat_natCast, List.drop_zero])); ((refine ⟨?_, hK' _ _ ?_⟩) <;> clear hK' K' <;> (first | (show alist _ _ _ _ _ _; skip) | (simp; done))))); all_goals refine al_nil ?_)
        refine ah_two 9 10 rfl rfl (by kernel_rfl) ?_ ?_
        · ((repeat' ((refine al_r rfl fun K' hK' => ?_); (repeat (simp only [go_sem, simprocAttr, bne_self_eq_false, List.length_map, hn0, hnl, Int.toNat_natCast, List.drop_zero])); ((show AC _ _ (D.fn 43 _) _ _); refine acall_new (f := 43) Try.call43 hcl rfl ?_; rintro r obs' ⟨rfl, rfl⟩; (simp only [go_sem, simprocAttr, bne_self_eq_false, List.length_map, hn0, hnl, Int.toNat_natCast, List.drop_zero]); refine hK' _ _ ?_; clear hK' K'))); all_goals refine al_nil ?_)
          (refine ah_one 10 rfl (by kernel_rfl) ?_; (repeat' ((refine al_r rfl fun K' hK' => ?_); (repeat (simp only [go_sem, simprocAttr, bne_self_eq_false, List.length_map, hn0, hnl, Int.toNat_natCast, List.drop_zero])); ((refine hK' _ _ ?_) <;> clear hK' K'))); all_goals refine al_nil ?_)
          (refine ah_one 11 rfl (by kernel_rfl) ?_; (repeat' ((refine al_r rfl fun K' hK' => ?_); (repeat (simp only [go_sem, simprocAttr, bne_self_eq_false, List.length_map, hn0, hnl, Int.toNat_natCast, List.drop_zero])); ((refine hK' _ _ ?_) <;> clear hK' K'))); all_goals refine al_nil ?_)
          (refine ah_one 12 rfl (by kernel_rfl) ?_; (repeat' ((refine al_r rfl fun K' hK' => ?_); (repeat (simp only [go_sem, simprocAttr, bne_self_eq_false, List.length_map, hn0, hnl, Int.toNat_natCast, List.drop_zero])); ((refine hK' _ _ ?_) <;> clear hK' K'))); all_goals refine al_nil ?_)
          ((refine ah_r 13 rfl (by kernel_rfl) rfl fun K' hK' => ?_); (simp only [go_sem, simprocAttr, bne_self_eq_false, List.length_map, hn0, hnl, Int.toNat_natCast, List.drop_zero]); ((refine hK' _ ?_); clear hK' K'))
          (refine ah_done (by kernel_rfl) ?_; (simp only [go_sem, simprocAttr, bne_self_eq_false, List.length_map, hn0, hnl, Int.toNat_natCast, List.drop_zero]); refine hK _ ?_; clear hK K)
          (refine awp_frz [1, 2, 4, 8] [0, 3, 1, 2] (by decide) (by (simp; done)) ?_; simp only [go_sem, simprocAttr, bne_self_eq_false, List.length_map, hn0, hnl, Int.toNat_natCast, List.drop_zero])
          exact keyA
        · ((repeat' ((refine al_r rfl fun K' hK' => ?_); (repeat (simp only [go_sem, simprocAttr, bne_self_eq_false, List.length_map, hn0, hnl, Int.toNat_natCast, List.drop_zero])); ((refine hK' _ _ ?_) <;> clear hK' K'))); all_goals refine al_nil ?_)
          (refine ah_one 9 rfl (by kernel_rfl) ?_; (repeat' ((refine al_r rfl fun K' hK' => ?_); (repeat (simp only [go_sem, simprocAttr, bne_self_eq_false, List.length_map, hn0, hnl, Int.toNat_natCast, List.drop_zero])); ((show AC _ _ (D.fn 43 _) _ _); refine acall_new (f := 43) Try.call43 hcl rfl ?_; rintro r obs' ⟨rfl, rfl⟩; (simp only [go_sem, simprocAttr, bne_self_eq_false, List.length_map, hn0, hnl, Int.toNat_natCast, List.drop_zero]); refine hK' _ _ ?_; clear hK' K'))); all_goals refine al_nil ?_)
          (refine ah_one 11 rfl (by kernel_rfl) ?_; (repeat' ((refine al_r rfl fun K' hK' => ?_); (repeat (simp only [go_sem, simprocAttr, bne_self_eq_false, List.length_map, hn0, hnl, Int.toNat_natCast, List.drop_zero])); ((refine hK' _ _ ?_) <;> clear hK' K'))); all_goals refine al_nil ?_)
          (refine ah_one 12 rfl (by kernel_rfl) ?_; (repeat' ((refine al_r rfl fun K' hK' => ?_); (repeat (simp only [go_sem, simprocAttr, bne_self_eq_false, List.length_map, hn0, hnl, Int.toNat_natCast, List.drop_zero])); ((refine hK' _ _ ?_) <;> clear hK' K'))); all_goals refine al_nil ?_)
          ((refine ah_r 13 rfl (by kernel_rfl) rfl fun K' hK' => ?_); (simp only [go_sem, simprocAttr, bne_self_eq_false, List.length_map, hn0, hnl, Int.toNat_natCast, List.drop_zero]); ((refine hK' _ ?_); clear hK' K'))
          (refine ah_done (by kernel_rfl) ?_; (simp only [go_sem, simprocAttr, bne_self_eq_false, List.length_map, hn0, hnl, Int.toNat_natCast, List.drop_zero]); refine hK _ ?_; clear hK K)
          (refine awp_frz [1, 2, 4, 8] [0, 3, 2, 1] (by decide) (by (simp; done)) ?_; simp only [go_sem, simprocAttr, bne_self_eq_false, List.length_map, hn0, hnl, Int.toNat_natCast, List.drop_zero])
          exact keyA
      · ((repeat' ((refine al_r rfl fun K' hK' => ?_); (repeat (simp only [go_sem, simprocAttr, bne_self_eq_false, List.length_map, hn0, hnl, Int.toNat_natCast, List.drop_zero])); ((refine hK' _ _ ?_) <;> clear hK' K'))); all_goals refine al_nil ?_)
        (refine ah_one 8 rfl (by kernel_rfl) ?_; (repeat' ((refine al_r rfl fun K' hK' => ?_); (repeat (simp only [go_sem, simprocAttr, bne_self_eq_false, List.length_map, hn0, hnl, Int.toNat_natCast, List.drop_zero])); ((refine ⟨?_, hK' _ _ ?_⟩) <;> clear hK' K' <;> (first | (show alist _ _ _ _ _ _; skip) | (simp; done))))); all_goals refine al_nil ?_)
        (refine ah_one 9 rfl (by kernel_rfl) ?_; (repeat' ((refine al_r rfl fun K' hK' => ?_); (repeat (simp only [go_sem, simprocAttr, bne_self_eq_false, List.length_map, hn0, hnl, Int.toNat_natCast, List.drop_zero])); ((show AC _ _ (D.fn 43 _) _ _); refine acall_new (f := 43) Try.call43 hcl rfl ?_; rintro r obs' ⟨rfl, rfl⟩; (simp only [go_sem, simprocAttr, bne_self_eq_false, List.length_map, hn0, hnl, Int.toNat_natCast, List.drop_zero]); refine hK' _ _ ?_; clear hK' K'))); all_goals refine al_nil ?_)
        (refine ah_one 11 rfl (by kernel_rfl) ?_; (repeat' ((refine al_r rfl fun K' hK' => ?_); (repeat (simp only [go_sem, simprocAttr, bne_self_eq_false, List.length_map, hn0, hnl, Int.toNat_natCast, List.drop_zero])); ((refine hK' _ _ ?_) <;> clear hK' K'))); all_goals refine al_nil ?_)
        (refine ah_one 12 rfl (by kernel_rfl) ?_; (repeat' ((refine al_r rfl fun K' hK' => ?_); (repeat (simp only [go_sem, simprocAttr, bne_self_eq_false, List.length_map, hn0, hnl, Int.toNat_natCast, List.drop_zero])); ((refine hK' _ _ ?_) <;> clear hK' K'))); all_goals refine al_nil ?_)
        ((refine ah_r 13 rfl (by kernel_rfl) rfl fun K' hK' => ?_); (simp only [go_sem, simprocAttr, bne_self_eq_false, List.length_map, hn0, hnl, Int.toNat_natCast, List.drop_zero]); ((refine hK' _ ?_); clear hK' K'))
        (refine ah_done (by kernel_rfl) ?_; (simp only [go_sem, simprocAttr, bne_self_eq_false, List.length_map, hn0, hnl, Int.toNat_natCast, List.drop_zero]); refine hK _ ?_; clear hK K)
        (refine awp_frz [1, 2, 4, 8] [0, 3, 2, 1] (by decide) (by (simp; done)) ?_; simp only [go_sem, simprocAttr, bne_self_eq_false, List.length_map, hn0, hnl, Int.toNat_natCast, List.drop_zero])
        exact keyA
    (refine awp_reg_seq [4, 8, 9] fun K hK => ?_; (repeat' ((refine al_r rfl fun K' hK' => ?_); (repeat (simp only [go_sem, simprocAttr, bne_self_eq_false, List.length_map, hn0, hnl, Int.toNat_natCast, List.drop_zero])); (first | ((refine hK' _ _ ?_) <;> clear hK' K') | ((show AC _ _ (D.fn 73 _) _ _); refine acall_m (f := 73) [1, 2, 3] Try.call73 hrun rfl rfl (by decide) (by simp) ?_; rintro r obs' ⟨rfl, rfl⟩; refine ⟨by simp, ?_⟩; (simp only [go_sem, simprocAttr, bne_self_eq_false, List.length_map, hn0, hnl, Int.toNat_natCast, List.drop_zero]); refine hK' _ _ ?_; clear hK' K')))); all_goals (refine al_nil ?_; (simp only [go_sem, simprocAttr, bne_self_eq_false, List.length_map, hn0, hnl, Int.toNat_natCast, List.drop_zero]); refine hK _ ?_; clear hK K))
    refine awp_draw_seq (by kernel_rfl) [4, 5, 6] fun K hK => ?_
    ((refine ah_r 0 rfl (by kernel_rfl) rfl fun K' hK' => ?_); (simp only [go_sem, simprocAttr, bne_self_eq_false, List.length_map, hn0, hnl, Int.toNat_natCast, List.drop_zero]); ((refine hK' _ ?_); clear hK' K'))
    ((refine ah_r 4 rfl (by kernel_rfl) rfl fun K' hK' => ?_); (simp only [go_sem, simprocAttr, bne_self_eq_false, List.length_map, hn0, hnl, Int.toNat_natCast, List.drop_zero]); ((refine hK' _ ?_); clear hK' K'))
    ((refine ah_r 10 rfl (by kernel_rfl) rfl fun K' hK' => ?_); (simp only [go_sem, simprocAttr, bne_self_eq_false, List.length_map, hn0, hnl, Int.toNat_natCast, List.drop_zero]); ((refine hK' _ ?_); clear hK' K'))
    refine ah_two 1 5 rfl rfl (by kernel_rfl) ?_ ?_
    · ((repeat' ((refine al_r rfl fun K' hK' => ?_); (repeat (simp only [go_sem, simprocAttr, bne_self_eq_false, List.length_map, hn0, hnl, Int.toNat_natCast, List.drop_zero])); ((refine hK' _ _ ?_) <;> clear hK' K'))); all_goals refine al_nil ?_)
      ((refine ah_r 2 rfl (by kernel_rfl) rfl fun K' hK' => ?_); (simp only [go_sem, simprocAttr, bne_self_eq_false, List.length_map, hn0, hnl, Int.toNat_natCast, List.drop_zero]); ((refine hK' _ ?_); clear hK' K'))
      refine ah_two 3 5 rfl rfl (by kernel_rfl) ?_ ?_
      · ((repeat' ((refine al_r rfl fun K' hK' => ?_); (repeat (simp only [go_sem, simprocAttr, bne_self_eq_false, List.length_map, hn0, hnl, Int.toNat_natCast, List.drop_zero])); ((refine hK' _ _ ?_) <;> clear hK' K'))); all_goals refine al_nil ?_)
        (refine ah_one 5 rfl (by kernel_rfl) ?_; (repeat' ((refine al_r rfl fun K' hK' => ?_); (repeat (simp only [go_sem, simprocAttr, bne_self_eq_false, List.length_map, hn0, hnl, Int.toNat_natCast, List.drop_zero])); ((refine hK' _ _ ?_) <;> clear hK' K'))); all_goals refine al_nil ?_)
        ((refine ah_r 6 rfl (by kernel_rfl) rfl fun K' hK' => ?_); (simp only [go_sem, simprocAttr, bne_self_eq_false, List.length_map, hn0, hnl, Int.toNat_natCast, List.drop_zero]); ((refine hK' _ ?_); clear hK' K'))
        (refine ah_one 7 rfl (by kernel_rfl) ?_; (repeat' ((refine al_r rfl fun K' hK' => ?_); (repeat (simp only [go_sem, simprocAttr, bne_self_eq_false, List.length_map, hn0, hnl, Int.toNat_natCast, List.drop_zero])); ((refine hK' _ _ ?_) <;> clear hK' K'))); all_goals refine al_nil ?_)
        ((refine ah_r 8 rfl (by kernel_rfl) rfl fun K' hK' => ?_); (simp only [go_sem, simprocAttr, bne_self_eq_false, List.length_map, hn0, hnl, Int.toNat_natCast, List.drop_zero]); ((refine ⟨?_, hK' _ ?_⟩) <;> clear hK' K' <;> (first | (intro s hs; cases hs; done) | skip)))
        (refine ah_one 9 rfl (by kernel_rfl) ?_; (repeat' ((refine al_r rfl fun K' hK' => ?_); (repeat (simp only [go_sem, simprocAttr, bne_self_eq_false, List.length_map, hn0, hnl, Int.toNat_natCast, List.drop_zero])); ((refine hK' _ _ ?_) <;> clear hK' K'))); all_goals refine al_nil ?_)
        (refine ah_one 11 rfl (by kernel_rfl) ?_; (repeat' ((refine al_d rfl fun K' hK' => ?_); (repeat (first | (simp only [go_sem, simprocAttr, bne_self_eq_false, List.length_map, hn0, hnl, Int.toNat_natCast, List.drop_zero]) | refine AS.mk ?_)); ((refine ⟨?_, hK' _ _ ?_⟩) <;> clear hK' K' <;> (first | (show alist _ _ _ _ _ _; skip) | (simp; done))))); all_goals refine al_nil ?_)
        ((refine ah_r 12 rfl (by kernel_rfl) rfl fun K' hK' => ?_); (simp only [go_sem, simprocAttr, bne_self_eq_false, List.length_map, hn0, hnl, Int.toNat_natCast, List.drop_zero]); ((refine hK' _ ?_); clear hK' K'))
        ((refine ah_r 13 rfl (by kernel_rfl) rfl fun K' hK' => ?_); (simp only [go_sem, simprocAttr, bne_self_eq_false, List.length_map, hn0, hnl, Int.toNat_natCast, List.drop_zero]); ((refine hK' _ ?_); clear hK' K'))
        (refine ah_done (by kernel_rfl) ?_; (simp only [go_sem, simprocAttr, bne_self_eq_false, List.length_map, hn0, hnl, Int.toNat_natCast, List.drop_zero]); refine hK _ ?_; clear hK K)
        refine awp_ret ?_; refine hR _ _ (.inl rfl) rfl ?_
        simp only [go_sem, simprocAttr, bne_self_eq_false, List.length_map, hn0, hnl, Int.toNat_natCast, List.drop_zero, htC, htB]
      · ((repeat' ((refine al_r rfl fun K' hK' => ?_); (repeat (simp only [go_sem, simprocAttr, bne_self_eq_false, List.length_map, hn0, hnl, Int.toNat_natCast, List.drop_zero])); ((refine hK' _ _ ?_) <;> clear hK' K'))); all_goals refine al_nil ?_)
        ((refine ah_r 6 rfl (by kernel_rfl) rfl fun K' hK' => ?_); (simp only [go_sem, simprocAttr, bne_self_eq_false, List.length_map, hn0, hnl, Int.toNat_natCast, List.drop_zero]); ((refine hK' _ ?_); clear hK' K'))
        refine ah_two 3 7 rfl rfl (by kernel_rfl) ?_ ?_
        · ((repeat' ((refine al_r rfl fun K' hK' => ?_); (repeat (simp only [go_sem, simprocAttr, bne_self_eq_false, List.length_map, hn0, hnl, Int.toNat_natCast, List.drop_zero])); ((refine hK' _ _ ?_) <;> clear hK' K'))); all_goals refine al_nil ?_)
          (refine ah_one 7 rfl (by kernel_rfl) ?_; (repeat' ((refine al_r rfl fun K' hK' => ?_); (repeat (simp only [go_sem, simprocAttr, bne_self_eq_false, List.length_map, hn0, hnl, Int.toNat_natCast, List.drop_zero])); ((refine hK' _ _ ?_) <;> clear hK' K'))); all_goals refine al_nil ?_)
          ((refine ah_r 8 rfl (by kernel_rfl) rfl fun K' hK' => ?_); (simp only [go_sem, simprocAttr, bne_self_eq_false, List.length_map, hn0, hnl, Int.toNat_natCast, List.drop_zero]); ((refine ⟨?_, hK' _ ?_⟩) <;> clear hK' K' <;> (first | (intro s hs; cases hs; done) | skip)))
          (refine ah_one 9 rfl (by kernel_rfl) ?_; (repeat' ((refine al_r rfl fun K' hK' => ?_); (repeat (simp only [go_sem, simprocAttr, bne_self_eq_false, List.length_map, hn0, hnl, Int.toNat_natCast, List.drop_zero])); ((refine hK' _ _ ?_) <;> clear hK' K'))); all_goals refine al_nil ?_)
          (refine ah_one 11 rfl (by kernel_rfl) ?_; (repeat' ((refine al_d rfl fun K' hK' => ?_); (repeat (first | (simp only [go_sem, simprocAttr, bne_self_eq_false, List.length_map, hn0, hnl, Int.toNat_natCast, List.drop_zero]) | refine AS.mk ?_)); ((refine ⟨?_, hK' _ _ ?_⟩) <;> clear hK' K' <;> (first | (show alist _ _ _ _ _ _; skip) | (simp; done))))); all_goals refine al_nil ?_)
          ((refine ah_r 12 rfl (by kernel_rfl) rfl fun K' hK' => ?_); (simp only [go_sem, simprocAttr, bne_self_eq_false, List.length_map, hn0, hnl, Int.toNat_natCast, List.drop_zero]); ((refine hK' _ ?_); clear hK' K'))
          ((refine ah_r 13 rfl (by kernel_rfl) rfl fun K' hK' => ?_); (simp only [go_sem, simprocAttr, bne_self_eq_false, List.length_map, hn0, hnl, Int.toNat_natCast, List.drop_zero]); ((refine hK' _ ?_); clear hK' K'))
          (refine ah_done (by kernel_rfl) ?_; (simp only [go_sem, simprocAttr, bne_self_eq_false, List.length_map, hn0, hnl, Int.toNat_natCast, List.drop_zero]); refine hK _ ?_; clear hK K)
          refine awp_ret ?_; refine hR _ _ (.inl rfl) rfl ?_
          simp only [go_sem, simprocAttr, bne_self_eq_false, List.length_map, hn0, hnl, Int.toNat_natCast, List.drop_zero, htC, htB]
        · ((repeat' ((refine al_r rfl fun K' hK' => ?_); (repeat (simp only [go_sem, simprocAttr, bne_self_eq_false, List.length_map, hn0, hnl, Int.toNat_natCast, List.drop_zero])); ((refine hK' _ _ ?_) <;> clear hK' K'))); all_goals refine al_nil ?_)
          ((refine ah_r 8 rfl (by kernel_rfl) rfl fun K' hK' => ?_); (simp only [go_sem, simprocAttr, bne_self_eq_false, List.length_map, hn0, hnl, Int.toNat_natCast, List.drop_zero]); ((refine ⟨?_, hK' _ ?_⟩) <;> clear hK' K' <;> (first | (intro s hs; cases hs; done) | skip)))
          (refine ah_one 3 rfl (by kernel_rfl) ?_; (repeat' ((refine al_r rfl fun K' hK' => ?_); (repeat (simp only [go_sem, simprocAttr, bne_self_eq_false, List.length_map, hn0, hnl, Int.toNat_natCast, List.drop_zero])); ((refine hK' _ _ ?_) <;> clear hK' K'))); all_goals refine al_nil ?_)
          (refine ah_one 9 rfl (by kernel_rfl) ?_; (repeat' ((refine al_r rfl fun K' hK' => ?_); (repeat (simp only [go_sem, simprocAttr, bne_self_eq_false, List.length_map, hn0, hnl, Int.toNat_natCast, List.drop_zero])); ((refine hK' _ _ ?_) <;> clear hK' K'))); all_goals refine al_nil ?_)
          (refine ah_one 11 rfl (by kernel_rfl) ?_; (repeat' ((refine al_d rfl fun K' hK' => ?_); (repeat (first | (simp only [go_sem, simprocAttr, bne_self_eq_false, List.length_map, hn0, hnl, Int.toNat_natCast, List.drop_zero]) | refine AS.mk ?_)); ((refine ⟨?_, hK' _ _ ?_⟩) <;> clear hK' K' <;> (first | (show alist _ _ _ _ _ _; skip) | (simp; done))))); all_goals refine al_nil ?_)
          ((refine ah_r 12 rfl (by kernel_rfl) rfl fun K' hK' => ?_); (simp only [go_sem, simprocAttr, bne_self_eq_false, List.length_map, hn0, hnl, Int.toNat_natCast, List.drop_zero]); ((refine hK' _ ?_); clear hK' K'))
          ((refine ah_r 13 rfl (by kernel_rfl) rfl fun K' hK' => ?_); (simp only [go_sem, simprocAttr, bne_self_eq_false, List.length_map, hn0, hnl, Int.toNat_natCast, List.drop_zero]); ((refine hK' _ ?_); clear hK' K'))
          (refine ah_done (by kernel_rfl) ?_; (simp only [go_sem, simprocAttr, bne_self_eq_false, List.length_map, hn0, hnl, Int.toNat_natCast, List.drop_zero]); refine hK _ ?_; clear hK K)
          refine awp_ret ?_; refine hR _ _ (.inl rfl) rfl ?_
          simp only [go_sem, simprocAttr, bne_self_eq_false, List.length_map, hn0, hnl, Int.toNat_natCast, List.drop_zero, htC, htB]
    · ((repeat' ((refine al_r rfl fun K' hK' => ?_); (repeat (simp only [go_sem, simprocAttr, bne_self_eq_false, List.length_map, hn0, hnl, Int.toNat_natCast, List.drop_zero])); ((refine hK' _ _ ?_) <;> clear hK' K'))); all_goals refine al_nil ?_)
      ((refine ah_r 6 rfl (by kernel_rfl) rfl fun K' hK' => ?_); (simp only [go_sem, simprocAttr, bne_self_eq_false, List.length_map, hn0, hnl, Int.toNat_natCast, List.drop_zero]); ((refine hK' _ ?_); clear hK' K'))
      refine ah_two 1 7 rfl rfl (by kernel_rfl) ?_ ?_
      · ((repeat' ((refine al_r rfl fun K' hK' => ?_); (repeat (simp only [go_sem, simprocAttr, bne_self_eq_false, List.length_map, hn0, hnl, Int.toNat_natCast, List.drop_zero])); ((refine hK' _ _ ?_) <;> clear hK' K'))); all_goals refine al_nil ?_)
        ((refine ah_r 2 rfl (by kernel_rfl) rfl fun K' hK' => ?_); (simp only [go_sem, simprocAttr, bne_self_eq_false, List.length_map, hn0, hnl, Int.toNat_natCast, List.drop_zero]); ((refine hK' _ ?_); clear hK' K'))
        refine ah_two 3 7 rfl rfl (by kernel_rfl) ?_ ?_
        · ((repeat' ((refine al_r rfl fun K' hK' => ?_); (repeat (simp only [go_sem, simprocAttr, bne_self_eq_false, List.length_map, hn0, hnl, Int.toNat_natCast, List.drop_zero])); ((refine hK' _ _ ?_) <;> clear hK' K'))); all_goals refine al_nil ?_)
          (refine ah_one 7 rfl (by kernel_rfl) ?_; (repeat' ((refine al_r rfl fun K' hK' => ?_); (repeat (simp only [go_sem, simprocAttr, bne_self_eq_false, List.length_map, hn0, hnl, Int.toNat_natCast, List.drop_zero])); ((refine hK' _ _ ?_) <;> clear hK' K'))); all_goals refine al_nil ?_)
          ((refine ah_r 8 rfl (by kernel_rfl) rfl fun K' hK' => ?_); (simp only [go_sem, simprocAttr, bne_self_eq_false, List.length_map, hn0, hnl, Int.toNat_natCast, List.drop_zero]); ((refine ⟨?_, hK' _ ?_⟩) <;> clear hK' K' <;> (first | (intro s hs; cases hs; done) | skip)))
          (refine ah_one 9 rfl (by kernel_rfl) ?_; (repeat' ((refine al_r rfl fun K' hK' => ?_); (repeat (simp only [go_sem, simprocAttr, bne_self_eq_false, List.length_map, hn0, hnl, Int.toNat_natCast, List.drop_zero])); ((refine hK' _ _ ?_) <;> clear hK' K'))); all_goals refine al_nil ?_)
          (refine ah_one 11 rfl (by kernel_rfl) ?_; (repeat' ((refine al_d rfl fun K' hK' => ?_); (repeat (first | (simp only [go_sem, simprocAttr, bne_self_eq_false, List.length_map, hn0, hnl, Int.toNat_natCast, List.drop_zero]) | refine AS.mk ?_)); ((refine ⟨?_, hK' _ _ ?_⟩) <;> clear hK' K' <;> (first | (show alist _ _ _ _ _ _; skip) | (simp; done))))); all_goals refine al_nil ?_)
          ((refine ah_r 12 rfl (by kernel_rfl) rfl fun K' hK' => ?_); (simp only [go_sem, simprocAttr, bne_self_eq_false, List.length_map, hn0, hnl, Int.toNat_natCast, List.drop_zero]); ((refine hK' _ ?_); clear hK' K'))
          ((refine ah_r 13 rfl (by kernel_rfl) rfl fun K' hK' => ?_); (simp only [go_sem, simprocAttr, bne_self_eq_false, List.length_map, hn0, hnl, Int.toNat_natCast, List.drop_zero]); ((refine hK' _ ?_); clear hK' K'))
          (refine ah_done (by kernel_rfl) ?_; (simp only [go_sem, simprocAttr, bne_self_eq_false, List.length_map, hn0, hnl, Int.toNat_natCast, List.drop_zero]); refine hK _ ?_; clear hK K)
          refine awp_ret ?_; refine hR _ _ (.inl rfl) rfl ?_
          simp only [go_sem, simprocAttr, bne_self_eq_false, List.length_map, hn0, hnl, Int.toNat_natCast, List.drop_zero, htC, htB]
        · ((repeat' ((refine al_r rfl fun K' hK' => ?_); (repeat (simp only [go_sem, simprocAttr, bne_self_eq_false, List.length_map, hn0, hnl, Int.toNat_natCast, List.drop_zero])); ((refine hK' _ _ ?_) <;> clear hK' K'))); all_goals refine al_nil ?_)
          ((refine ah_r 8 rfl (by kernel_rfl) rfl fun K' hK' => ?_); (simp only [go_sem, simprocAttr, bne_self_eq_false, List.length_map, hn0, hnl, Int.toNat_natCast, List.drop_zero]); ((refine ⟨?_, hK' _ ?_⟩) <;> clear hK' K' <;> (first | (intro s hs; cases hs; done) | skip)))
          (refine ah_one 3 rfl (by kernel_rfl) ?_; (repeat' ((refine al_r rfl fun K' hK' => ?_); (repeat (simp only [go_sem, simprocAttr, bne_self_eq_false, List.length_map, hn0, hnl, Int.toNat_natCast, List.drop_zero])); ((refine hK' _ _ ?_) <;> clear hK' K'))); all_goals refine al_nil ?_)
          (refine ah_one 9 rfl (by kernel_rfl) ?_; (repeat' ((refine al_r rfl fun K' hK' => ?_); (repeat (simp only [go_sem, simprocAttr, bne_self_eq_false, List.length_map, hn0, hnl, Int.toNat_natCast, List.drop_zero])); ((refine hK' _ _ ?_) <;> clear hK' K'))); all_goals refine al_nil ?_)
          (refine ah_one 11 rfl (by kernel_rfl) ?_; (repeat' ((refine al_d rfl fun K' hK' => ?_); (repeat (first | (simp only [go_sem, simprocAttr, bne_self_eq_false, List.length_map, hn0, hnl, Int.toNat_natCast, List.drop_zero]) | refine AS.mk ?_)); ((refine ⟨?_, hK' _ _ ?_⟩) <;> clear hK' K' <;> (first | (show alist _ _ _ _ _ _; skip) | (simp; done))))); all_goals refine al_nil ?_)
          ((refine ah_r 12 rfl (by kernel_rfl) rfl fun K' hK' => ?_); (simp only [go_sem, simprocAttr, bne_self_eq_false, List.length_map, hn0, hnl, Int.toNat_natCast, List.drop_zero]); ((refine hK' _ ?_); clear hK' K'))
          ((refine ah_r 13 rfl (by kernel_rfl) rfl fun K' hK' => ?_); (simp only [go_sem, simprocAttr, bne_self_eq_false, List.length_map, hn0, hnl, Int.toNat_natCast, List.drop_zero]); ((refine hK' _ ?_); clear hK' K'))
          (refine ah_done (by kernel_rfl) ?_; (simp only [go_sem, simprocAttr, bne_self_eq_false, List.length_map, hn0, hnl, Int.toNat_natCast, List.drop_zero]); refine hK _ ?_; clear hK K)
          refine awp_ret ?_; refine hR _ _ (.inl rfl) rfl ?_
          simp only [go_sem, simprocAttr, bne_self_eq_false, List.length_map, hn0, hnl, Int.toNat_natCast, List.drop_zero, htC, htB]
      · ((repeat' ((refine al_r rfl fun K' hK' => ?_); (repeat (simp only [go_sem, simprocAttr, bne_self_eq_false, List.length_map, hn0, hnl, Int.toNat_natCast, List.drop_zero])); ((refine hK' _ _ ?_) <;> clear hK' K'))); all_goals refine al_nil ?_)
        ((refine ah_r 8 rfl (by kernel_rfl) rfl fun K' hK' => ?_); (simp only [go_sem, simprocAttr, bne_self_eq_false, List.length_map, hn0, hnl, Int.toNat_natCast, List.drop_zero]); ((refine ⟨?_, hK' _ ?_⟩) <;> clear hK' K' <;> (first | (intro s hs; cases hs; done) | skip)))
        (refine ah_one 1 rfl (by kernel_rfl) ?_; (repeat' ((refine al_r rfl fun K' hK' => ?_); (repeat (simp only [go_sem, simprocAttr, bne_self_eq_false, List.length_map, hn0, hnl, Int.toNat_natCast, List.drop_zero])); ((refine hK' _ _ ?_) <;> clear hK' K'))); all_goals refine al_nil ?_)
        ((refine ah_r 2 rfl (by kernel_rfl) rfl fun K' hK' => ?_); (simp only [go_sem, simprocAttr, bne_self_eq_false, List.length_map, hn0, hnl, Int.toNat_natCast, List.drop_zero]); ((refine hK' _ ?_); clear hK' K'))
        (refine ah_one 3 rfl (by kernel_rfl) ?_; (repeat' ((refine al_r rfl fun K' hK' => ?_); (repeat (simp only [go_sem, simprocAttr, bne_self_eq_false, List.length_map, hn0, hnl, Int.toNat_natCast, List.drop_zero])); ((refine hK' _ _ ?_) <;> clear hK' K'))); all_goals refine al_nil ?_)
        (refine ah_one 9 rfl (by kernel_rfl) ?_; (repeat' ((refine al_r rfl fun K' hK' => ?_); (repeat (simp only [go_sem, simprocAttr, bne_self_eq_false, List.length_map, hn0, hnl, Int.toNat_natCast, List.drop_zero])); ((refine hK' _ _ ?_) <;> clear hK' K'))); all_goals refine al_nil ?_)
        (refine ah_one 11 rfl (by kernel_rfl) ?_; (repeat' ((refine al_d rfl fun K' hK' => ?_); (repeat (first | (simp only [go_sem, simprocAttr, bne_self_eq_false, List.length_map, hn0, hnl, Int.toNat_natCast, List.drop_zero]) | refine AS.mk ?_)); ((refine ⟨?_, hK' _ _ ?_⟩) <;> clear hK' K' <;> (first | (show alist _ _ _ _ _ _; skip) | (simp; done))))); all_goals refine al_nil ?_)
        ((refine ah_r 12 rfl (by kernel_rfl) rfl fun K' hK' => ?_); (simp only [go_sem, simprocAttr, bne_self_eq_false, List.length_map, hn0, hnl, Int.toNat_natCast, List.drop_zero]); ((refine hK' _ ?_); clear hK' K'))
        ((refine ah_r 13 rfl (by kernel_rfl) rfl fun K' hK' => ?_); (simp only [go_sem, simprocAttr, bne_self_eq_false, List.length_map, hn0, hnl, Int.toNat_natCast, List.drop_zero]); ((refine hK' _ ?_); clear hK' K'))
        (refine ah_done (by kernel_rfl) ?_; (simp only [go_sem, simprocAttr, bne_self_eq_false, List.length_map, hn0, hnl, Int.toNat_natCast, List.drop_zero]); refine hK _ ?_; clear hK K)
        refine awp_ret ?_; refine hR _ _ (.inl rfl) rfl ?_
        simp only [go_sem, simprocAttr, bne_self_eq_false, List.length_map, hn0, hnl, Int.toNat_natCast, List.drop_zero, htC, htB]
    skip
end Go.Proofs.Ytagphggcdmjlpaa.P

/- Add: contracts; and the closed fact youths. -/
namespace Go.Proofs.Ytagphggcdmjlpaa.P
open Go.Ab Go.Proofs.Ytagphggcdmjlpaa.T


theorem addBad (h : List Int) (old e k n : Int) (text : ByteArray) (args : List (List PV)) (late : List Int) (he : (e != 0) = true) (hck : ACallP Try.prog 35 [agesD h old late] (iD e)) : ACallP Try.prog 71 [agesD h old late, valD k n text args] (.tup [zagesD, wD 0, iD e]) := by
  refine acallp_fnv [.cell 4 64, .tmp 5, .tmp 6] Try.func71 rfl rfl Try.ntmps71 (by simp) fun R hR => ?_
  (refine awp_reg_seq [2, 3, 4] fun K hK => ?_; (repeat' ((refine al_r rfl fun K' hK' => ?_); (repeat (simp only [go_sem, simprocAttr, he])); ((refine hK' _ _ ?_) <;> clear hK' K'))); all_goals (refine al_nil ?_; (simp only [go_sem, simprocAttr, he]); refine hK _ ?_; clear hK K))
  (refine awp_frz [2, 3, 4] [2] (by decide) (by (simp; done)) ?_; simp only [go_sem, simprocAttr, he])
  refine awp_seq_k fun K hK => ?_
  (refine awp_reg_seq [2, 3, 4, 7] fun K hK => ?_; (repeat' ((refine al_r rfl fun K' hK' => ?_); (repeat (simp only [go_sem, simprocAttr, he])); (first | ((refine hK' _ _ ?_) <;> clear hK' K') | ((show AC _ _ (D.fn 35 _) _ _); refine acall_g (f := 35) (e := rfl) (hr := rfl) (hf := by simp [D.all, D.allL, flatL, flatPV]) (k := hK' _ _ ?_) (hc := Try.call35) (h := hck); clear hK' K')))); all_goals (refine al_nil ?_; (simp only [go_sem, simprocAttr, he]); refine hK _ ?_; clear hK K))
  (refine awp_reg_seq [2, 3, 4, 7, 14] fun K hK => ?_; (repeat' ((refine al_r rfl fun K' hK' => ?_); (repeat (simp only [go_sem, simprocAttr, he])); ((refine hK' _ _ ?_) <;> clear hK' K'))); all_goals (refine al_nil ?_; (simp only [go_sem, simprocAttr, he]); refine hK _ ?_; clear hK K))
  refine awp_if (_) rfl (fun hc => ?_) (fun hc => ?_)
  · (refine awp_reg_seq [4, 5, 6] fun K hK => ?_; (repeat' ((first | refine al_r rfl fun K' hK' => ?_ | refine al_d rfl fun K' hK' => ?_); (repeat (first | (simp only [go_sem, simprocAttr, he]) | refine AS.mk ?_)); ((first | refine hK' _ _ ?_ | refine ⟨?_, hK' _ _ ?_⟩) <;> clear hK' K' <;> (first | (show alist _ _ _ _ _ _; skip) | (simp; done))))); all_goals (refine al_nil ?_; (simp only [go_sem, simprocAttr, he]); refine hK _ ?_; clear hK K))
    refine awp_ret ?_; refine hR _ _ (.inl rfl) rfl ?_
    simp only [go_sem, simprocAttr, he, List.map_nil]
  · cases hc


theorem addFail (h g : List Int) (old e k n w : Int) (text : ByteArray) (args : List (List PV)) (late : List Int) (he : (e != 0) = true) (hck : ACallP Try.prog 35 [agesD h old late] (iD 0)) (hbu : ACallP Try.prog 23 [words h, valD k n text args] (.tup [words g, wD w, iD e])) : ACallP Try.prog 71 [agesD h old late, valD k n text args] (.tup [zagesD, wD 0, iD e]) := by
  refine acallp_fnv [.cell 4 64, .tmp 5, .tmp 6] Try.func71 rfl rfl Try.ntmps71 (by simp) fun R hR => ?_
  (refine awp_reg_seq [2, 3, 4] fun K hK => ?_; (repeat' ((refine al_r rfl fun K' hK' => ?_); (repeat (simp only [go_sem, simprocAttr, he, bne_self_eq_false])); ((refine hK' _ _ ?_) <;> clear hK' K'))); all_goals (refine al_nil ?_; (simp only [go_sem, simprocAttr, he, bne_self_eq_false]); refine hK _ ?_; clear hK K))
  (refine awp_frz [2, 3, 4] [2] (by decide) (by (simp; done)) ?_; simp only [go_sem, simprocAttr, he, bne_self_eq_false])
  refine awp_seq_k fun K hK => ?_
  (refine awp_reg_seq [2, 3, 4, 7] fun K hK => ?_; (repeat' ((refine al_r rfl fun K' hK' => ?_); (repeat (simp only [go_sem, simprocAttr, he, bne_self_eq_false])); (first | ((refine hK' _ _ ?_) <;> clear hK' K') | ((show AC _ _ (D.fn 35 _) _ _); refine acall_g (f := 35) (e := rfl) (hr := rfl) (hf := by simp [D.all, D.allL, flatL, flatPV]) (k := hK' _ _ ?_) (hc := Try.call35) (h := hck); clear hK' K')))); all_goals (refine al_nil ?_; (simp only [go_sem, simprocAttr, he, bne_self_eq_false]); refine hK _ ?_; clear hK K))
  (refine awp_reg_seq [2, 3, 4, 7, 14] fun K hK => ?_; (repeat' ((refine al_r rfl fun K' hK' => ?_); (repeat (simp only [go_sem, simprocAttr, he, bne_self_eq_false])); ((refine hK' _ _ ?_) <;> clear hK' K'))); all_goals (refine al_nil ?_; (simp only [go_sem, simprocAttr, he, bne_self_eq_false]); refine hK _ ?_; clear hK K))
  refine awp_if (_) rfl (fun hc => ?_) (fun hc => ?_)
  · cases hc
  · refine awp_skip ?_
    refine hK _ ?_; clear hK K
    (refine awp_reg_seq [2, 4, 8, 9, 10] fun K hK => ?_; (repeat' ((refine al_r rfl fun K' hK' => ?_); (repeat (simp only [go_sem, simprocAttr, he, bne_self_eq_false])); (first | ((refine hK' _ _ ?_) <;> clear hK' K') | ((show AC _ _ (D.fn 23 _) _ _); refine acall_p (f := 23) (e := rfl) (hr := rfl) (k := hK' _ _ ?_) (hc := Try.call23) (h := hbu); clear hK' K')))); all_goals (refine al_nil ?_; (simp only [go_sem, simprocAttr, he, bne_self_eq_false]); refine hK _ ?_; clear hK K))
    refine awp_seq_k fun K hK => ?_
    (refine awp_reg_seq [2, 4, 8, 9, 10, 26] fun K hK => ?_; (repeat' ((refine al_r rfl fun K' hK' => ?_); (repeat (simp only [go_sem, simprocAttr, he, bne_self_eq_false])); ((refine hK' _ _ ?_) <;> clear hK' K'))); all_goals (refine al_nil ?_; (simp only [go_sem, simprocAttr, he, bne_self_eq_false]); refine hK _ ?_; clear hK K))
    refine awp_if (_) rfl (fun hc => ?_) (fun hc => ?_)
    · (refine awp_reg_seq [4, 5, 6] fun K hK => ?_; (repeat' ((first | refine al_r rfl fun K' hK' => ?_ | refine al_d rfl fun K' hK' => ?_); (repeat (first | (simp only [go_sem, simprocAttr, he, bne_self_eq_false]) | refine AS.mk ?_)); ((first | refine hK' _ _ ?_ | refine ⟨?_, hK' _ _ ?_⟩) <;> clear hK' K' <;> (first | (show alist _ _ _ _ _ _; skip) | (simp; done))))); all_goals (refine al_nil ?_; (simp only [go_sem, simprocAttr, he, bne_self_eq_false]); refine hK _ ?_; clear hK K))
      refine awp_ret ?_; refine hR _ _ (.inl rfl) rfl ?_
      simp only [go_sem, simprocAttr, he, bne_self_eq_false, List.map_nil]
    · cases hc


theorem addGood (h g : List Int) (old k n w : Int) (text : ByteArray) (args : List (List PV)) (late : List Int) (hck : ACallP Try.prog 35 [agesD h old late] (iD 0)) (hbu : ACallP Try.prog 23 [words h, valD k n text args] (.tup [words g, wD w, iD 0])) (hlate : late.length ≤ 100000) : ACallP Try.prog 71 [agesD h old late, valD k n text args] (.tup [agesD g old late, wD w, iD 0]) := by
  have hcI := cloneI (late.map irow) (irow1 late) (by simp; omega)
  rw [List.length_map] at hcI
  have htI : List.take late.length (late.map irow) = late.map irow := List.take_of_length_le (by simp)
  refine acallp_fnv [.cell 4 64, .tmp 5, .tmp 6] Try.func71 rfl rfl Try.ntmps71 (by simp) fun R hR => ?_
  (refine awp_reg_seq [2, 3, 4] fun K hK => ?_; (repeat' ((refine al_r rfl fun K' hK' => ?_); (repeat (simp only [go_sem, simprocAttr, bne_self_eq_false])); ((refine hK' _ _ ?_) <;> clear hK' K'))); all_goals (refine al_nil ?_; (simp only [go_sem, simprocAttr, bne_self_eq_false]); refine hK _ ?_; clear hK K))
  (refine awp_frz [2, 3, 4] [2] (by decide) (by (simp; done)) ?_; simp only [go_sem, simprocAttr, bne_self_eq_false])
  refine awp_seq_k fun K hK => ?_
  (refine awp_reg_seq [2, 3, 4, 7] fun K hK => ?_; (repeat' ((refine al_r rfl fun K' hK' => ?_); (repeat (simp only [go_sem, simprocAttr, bne_self_eq_false])); (first | ((refine hK' _ _ ?_) <;> clear hK' K') | ((show AC _ _ (D.fn 35 _) _ _); refine acall_g (f := 35) (e := rfl) (hr := rfl) (hf := by simp [D.all, D.allL, flatL, flatPV]) (k := hK' _ _ ?_) (hc := Try.call35) (h := hck); clear hK' K')))); all_goals (refine al_nil ?_; (simp only [go_sem, simprocAttr, bne_self_eq_false]); refine hK _ ?_; clear hK K))
  (refine awp_reg_seq [2, 3, 4, 7, 14] fun K hK => ?_; (repeat' ((refine al_r rfl fun K' hK' => ?_); (repeat (simp only [go_sem, simprocAttr, bne_self_eq_false])); ((refine hK' _ _ ?_) <;> clear hK' K'))); all_goals (refine al_nil ?_; (simp only [go_sem, simprocAttr, bne_self_eq_false]); refine hK _ ?_; clear hK K))
  refine awp_if (_) rfl (fun hc => ?_) (fun hc => ?_)
  · cases hc
  · refine awp_skip ?_
    refine hK _ ?_; clear hK K
    (refine awp_reg_seq [2, 4, 8, 9, 10] fun K hK => ?_; (repeat' ((refine al_r rfl fun K' hK' => ?_); (repeat (simp only [go_sem, simprocAttr, bne_self_eq_false])); (first | ((refine hK' _ _ ?_) <;> clear hK' K') | ((show AC _ _ (D.fn 23 _) _ _); refine acall_p (f := 23) (e := rfl) (hr := rfl) (k := hK' _ _ ?_) (hc := Try.call23) (h := hbu); clear hK' K')))); all_goals (refine al_nil ?_; (simp only [go_sem, simprocAttr, bne_self_eq_false]); refine hK _ ?_; clear hK K))
    refine awp_seq_k fun K hK => ?_
    (refine awp_reg_seq [2, 4, 8, 9, 10, 26] fun K hK => ?_; (repeat' ((refine al_r rfl fun K' hK' => ?_); (repeat (simp only [go_sem, simprocAttr, bne_self_eq_false])); ((refine hK' _ _ ?_) <;> clear hK' K'))); all_goals (refine al_nil ?_; (simp only [go_sem, simprocAttr, bne_self_eq_false]); refine hK _ ?_; clear hK K))
    refine awp_if (_) rfl (fun hc => ?_) (fun hc => ?_)
    · cases hc
    · refine awp_skip ?_
      refine hK _ ?_; clear hK K
      refine awp_draw_seq (by kernel_rfl) [4, 5, 6] fun K hK => ?_
      ((refine ah_r 0 rfl (by kernel_rfl) rfl fun K' hK' => ?_); (simp only [go_sem, simprocAttr, bne_self_eq_false]); ((refine hK' _ ?_); clear hK' K'))
      ((refine ah_r 1 rfl (by kernel_rfl) rfl fun K' hK' => ?_); (simp only [go_sem, simprocAttr, bne_self_eq_false]); ((refine hK' _ ?_); clear hK' K'))
      ((refine ah_r 2 rfl (by kernel_rfl) rfl fun K' hK' => ?_); (simp only [go_sem, simprocAttr, bne_self_eq_false]); ((refine hK' _ ?_); clear hK' K'))
      ((refine ah_r 3 rfl (by kernel_rfl) rfl fun K' hK' => ?_); (simp only [go_sem, simprocAttr, bne_self_eq_false]); ((refine hK' _ ?_); clear hK' K'))
      ((refine ah_r 4 rfl (by kernel_rfl) rfl fun K' hK' => ?_); (simp only [go_sem, simprocAttr, bne_self_eq_false]); ((refine hK' _ ?_); clear hK' K'))
      ((refine ah_r 7 rfl (by kernel_rfl) rfl fun K' hK' => ?_); (simp only [go_sem, simprocAttr, bne_self_eq_false]); ((refine hK' _ ?_); clear hK' K'))
      (refine ah_one 5 rfl (by kernel_rfl) ?_; (repeat' ((refine al_r rfl fun K' hK' => ?_); (repeat (simp only [go_sem, simprocAttr, bne_self_eq_false])); ((show AC _ _ (D.fn 45 _) _ _); refine acall_new (f := 45) Try.call45 hcI rfl ?_; rintro r obs' ⟨rfl, rfl⟩; (simp only [go_sem, simprocAttr, bne_self_eq_false]); refine hK' _ _ ?_; clear hK' K'))); all_goals refine al_nil ?_)
      (refine ah_one 6 rfl (by kernel_rfl) ?_; (repeat' ((refine al_r rfl fun K' hK' => ?_); (repeat (simp only [go_sem, simprocAttr, bne_self_eq_false])); ((refine hK' _ _ ?_) <;> clear hK' K'))); all_goals refine al_nil ?_)
      (refine ah_one 8 rfl (by kernel_rfl) ?_; (repeat' ((refine al_d rfl fun K' hK' => ?_); (repeat (first | (simp only [go_sem, simprocAttr, bne_self_eq_false]) | refine AS.mk ?_)); ((refine ⟨?_, hK' _ _ ?_⟩) <;> clear hK' K' <;> (first | (show alist _ _ _ _ _ _; skip) | (simp; done))))); all_goals refine al_nil ?_)
      ((refine ah_r 9 rfl (by kernel_rfl) rfl fun K' hK' => ?_); (simp only [go_sem, simprocAttr, bne_self_eq_false]); ((refine hK' _ ?_); clear hK' K'))
      ((refine ah_r 10 rfl (by kernel_rfl) rfl fun K' hK' => ?_); (simp only [go_sem, simprocAttr, bne_self_eq_false]); ((refine hK' _ ?_); clear hK' K'))
      (refine ah_done (by kernel_rfl) ?_; (simp only [go_sem, simprocAttr, bne_self_eq_false]); refine hK _ ?_; clear hK K)
      refine awp_ret ?_; refine hR _ _ (.inl rfl) rfl ?_
      simp only [go_sem, simprocAttr, bne_self_eq_false, htI]
end Go.Proofs.Ytagphggcdmjlpaa.P

/- The closed fact youths. -/
namespace Go.Proofs.Ytagphggcdmjlpaa.P
open Go.Ab Go.Proofs.Ytagphggcdmjlpaa.T

theorem hokA : ∀ w, w ∈ ([258, 97] : List Int) → WordOk w := by
  intro w hw
  simp only [List.mem_cons, List.not_mem_nil, or_false] at hw
  rcases hw with rfl | rfl <;> exact ⟨by decide, by decide⟩

theorem objsNil : ACallP Try.prog 15 [words []] (.tup [objs [], iD 0]) := by
  have h := objects [] (by simp [maxLen]) (by simp)
  rw [show objsS [] = ([], 0) by kernel_rfl] at h
  exact h

theorem objsA : ACallP Try.prog 15 [words [258, 97]] (.tup [objs [oA], iD 0]) := by
  have h := objects [258, 97] (by simp [maxLen]) hokA
  rw [show objsS [258, 97] = ([oA], 0) by kernel_rfl] at h
  exact h

theorem checkNil : ACallP Try.prog 35 [agesD [] 0 []] (iD 0) := by
  have h := checkGood [] 0 [] [] objsNil (by simp) (by simp) (by simp [maxLen]) (by simp)
  rw [show checkO (([] : List Int).length : Nat) 0 [] [] = 0 by kernel_rfl] at h
  exact h

theorem checkA : ACallP Try.prog 35 [agesD [258, 97] 0 []] (iD 0) := by
  have h := checkGood [258, 97] 0 [] [oA] objsA (by simp) (by simp) (by simp [maxLen]) (by simp)
  rw [show checkO (([258, 97] : List Int).length : Nat) 0 [] [oA] = 0 by kernel_rfl] at h
  exact h

theorem addA : ACallP Try.prog 71 [agesD [] 0 [], valD 4 0 ⟨#[97]⟩ []] (.tup [agesD [258, 97] 0 [], wD 4, iD 0]) := addGood [] [258, 97] 0 4 0 4 ⟨#[97]⟩ [] [] checkNil buildA (by simp)
theorem addB : ACallP Try.prog 71 [.agg [.nil, iD 0, .nil], .agg [iD 4, iD 0, .p (.lit (.string ⟨#[97]⟩)), .nil]] (.tup [agesD [258, 97] 0 [], wD 4, iD 0]) := ACallP.soft addA rfl

theorem namedA : ACallP Try.prog 66 [agesD [258, 97] 0 [], words [4]] (iD 0) := by
  have h := namedGood [258, 97] 0 0 [] [4] [oA] checkA objsA (by simp [maxLen]) (by simp [maxLen]) hokA (by simp [maxLen])
  rw [show firstE (nameE [258, 97] [oA]) [4] = 0 by kernel_rfl] at h
  exact h

theorem rootsA : rootsC [258, 97] 0 ([], []) [4] = ([4], [258, 97], [(0, 0)]) := by kernel_rfl
theorem scanA : scanC [258, 97] 0 1 ([258, 97], [(0, 0)]) 0 = ([258, 97], [(0, 0)]) := by kernel_rfl

theorem majorA : ACallP Try.prog 39 [agesD [258, 97] 0 [], words [4]] (.tup [.agg [words [258, 97], iD 2, .p (.sl [])], words [4], iD 0]) := by
  have h := majorGood [258, 97] 0 [] [4] 1 namedA (by simp [maxLen]) hokA (by simp) ?_ ?_
  · rw [rootsA] at h
    rw [scanA] at h
    exact h
  · refine ⟨by simp, fun _ _ => ?_, ?_⟩
    · kernel_rfl
    · show (wordC [258, 97] 0 ([], []) 4).2.1.length ≤ 4000
      rw [show (wordC [258, 97] 0 ([], []) 4).2.1 = [258, 97] by kernel_rfl]
      simp
  · rw [rootsA]
    have e1 : (atS [258, 97] 0) = (oA, 0) := by kernel_rfl
    have e2 : (putS [] oA) = ([258, 97], 0, 0) := by kernel_rfl
    have e3 : partsC [258, 97] 0 ([258, 97], [(0, 0)]) 0 = (2, [258, 97], [(0, 0)]) := by kernel_rfl
    intro _
    refine ⟨⟨hokA, by simp, ?_, ?_, ?_⟩, ?_⟩
    · show (atS [258, 97] 0).1.parts.length ≤ _
      rw [e1]; simp
    · show 0 + (putS [] (atS [258, 97] 0).1).1.length ≤ _
      rw [e1, e2]; simp
    · show partOK _ _ _ _ (atS [258, 97] 0).1.parts
      rw [e1]; simp [partOK]
    · rw [e3]; simp [scanOK]


theorem youths : ACallP Try.prog 34 [] (bD true) := by
  refine acallp_fn [0] Try.func34 rfl rfl Try.ntmps34 (by simp) fun R hR => ?_
  (refine awp_reg_seq [] fun K hK => ?_; (repeat' ((refine al_r rfl fun K' hK' => ?_); (repeat (simp only [go_sem, simprocAttr, beq_self_eq_true])); ((refine hK' _ _ ?_) <;> clear hK' K'))); all_goals (refine al_nil ?_; (simp only [go_sem, simprocAttr, beq_self_eq_true]); refine hK _ ?_; clear hK K))
  (refine awp_reg_seq [1, 2, 3] fun K hK => ?_; (repeat' ((first | refine al_r rfl fun K' hK' => ?_ | refine al_d rfl fun K' hK' => ?_); (repeat (first | (simp only [go_sem, simprocAttr, beq_self_eq_true]) | refine AS.mk ?_)); (first | ((first | refine hK' _ _ ?_ | refine ⟨?_, hK' _ _ ?_⟩) <;> clear hK' K' <;> (first | (show alist _ _ _ _ _ _; skip) | (simp; done))) | ((show AC _ _ (D.fn 71 _) _ _); refine acall_p (f := 71) (e := rfl) (hr := rfl) (k := hK' _ _ ?_) (hc := Try.call71) (h := addB); clear hK' K')))); all_goals (refine al_nil ?_; (simp only [go_sem, simprocAttr, beq_self_eq_true]); refine hK _ ?_; clear hK K))
  (refine awp_frz [1, 2, 3] [] (by decide) (by (simp; done)) ?_; simp only [go_sem, simprocAttr, beq_self_eq_true])
  (refine awp_reg_seq [3, 4, 5, 6] fun K hK => ?_; (repeat' ((first | refine al_r rfl fun K' hK' => ?_ | refine al_d rfl fun K' hK' => ?_); (repeat (first | (simp only [go_sem, simprocAttr, beq_self_eq_true]) | refine AS.mk ?_)); (first | ((first | refine hK' _ _ ?_ | refine ⟨?_, hK' _ _ ?_⟩) <;> clear hK' K' <;> (first | (show alist _ _ _ _ _ _; skip) | (simp; done))) | ((show AC _ _ (D.fn 39 _) _ _); refine acall_w [] (by decide) (by simp) (f := 39) (e := rfl) (hr := fun _ => rfl) (k := hK' _ _ ?_) (hc := Try.call39) (h := majorA); clear hK' K')))); all_goals (refine al_nil ?_; (simp only [go_sem, simprocAttr, beq_self_eq_true]); refine hK _ ?_; clear hK K))
  (refine awp_frz [3, 4, 5, 6] [] (by decide) (by (simp; done)) ?_; simp only [go_sem, simprocAttr, beq_self_eq_true])
  (refine awp_reg_seq [0] fun K hK => ?_; (repeat' ((first | refine al_r rfl fun K' hK' => ?_ | refine al_t rfl rfl fun K' hK' => ?_); (repeat (simp only [go_sem, simprocAttr, beq_self_eq_true])); (first | ((first | refine hK' _ _ ?_ | refine ⟨?_, hK' _ _ ?_⟩) <;> clear hK' K' <;> (first | (show alist _ _ _ _ _ _; skip) | (intro s hs; cases hs; done))) | ((show AC _ _ (D.fn 20 _) _ _); refine acall_w [] (by decide) (by simp) (f := 20) (e := rfl) (hr := fun _ => rfl) (k := hK' _ _ ?_) (hc := Try.call20) (h := good00); clear hK' K')))); all_goals (refine al_nil ?_; (simp only [go_sem, simprocAttr, beq_self_eq_true]); refine hK _ ?_; clear hK K))
  all_goals (refine awp_ret ?_; (refine hR _ _ (.inl rfl) rfl ?_); (simp only [go_sem, simprocAttr, beq_self_eq_true, *, Bool.and_true, Bool.and_false, Bool.true_and, Bool.false_and, Bool.or_true, Bool.true_or, Bool.or_false, Bool.false_or, Bool.not_true, Bool.not_false, Bool.false_eq_true]; done))
end Go.Proofs.Ytagphggcdmjlpaa.P

/- Ages that are right, in plain words: facts about objects at their places. -/
namespace Go.Proofs.Ytagphggcdmjlpaa.P
open Go.Ab Go.Proofs.Ytagphggcdmjlpaa.T

theorem place_append : ∀ (l m : List Obj) (a : Nat), place a (l ++ m) = place a l ++ place (a + (flat l).length) m
  | [], m, a => rfl
  | o :: l, m, a => by
    show o.to a :: place _ (l ++ m) = o.to a :: (place _ l ++ _)
    rw [place_append l m]
    have : (flat (o :: l)).length = (encW o).length + (flat l).length := by show (encW o ++ flat l).length = _; rw [List.length_append]
    rw [this, Nat.add_assoc]

theorem chain_place {h : List Int} : ∀ {l : List Obj} {a : Nat}, Chain h a l → place a l = l
  | [], _, _ => rfl
  | o :: l, a, ⟨h1, _, _, _, h5⟩ => by
    show o.to a :: place _ l = _
    rw [chain_place h5]
    have : o.to a = o := by cases o; simp only at h1; subst h1; rfl
    rw [this]

theorem parts_flat {l : List Obj} {o : Obj} (ho : o ∈ l) {w : Int} (hw : w ∈ o.parts) : w ∈ flat l := by
  induction l with
  | nil => cases ho
  | cons x l ih =>
    show w ∈ encW x ++ flat l
    rcases List.mem_cons.1 ho with rfl | ho
    · refine List.mem_append_left _ ?_
      unfold encW
      exact List.mem_cons_of_mem _ (List.mem_append_right _ (List.mem_append_right _ hw))
    · exact List.mem_append_right _ (ih ho)

/-- A list of objects at their places. -/
def Placed (l : List Obj) : Prop := place 0 l = l ∧ ∀ o, o ∈ l → ObjOk o

theorem heap_flat {h : List Int} (hlen : h.length ≤ maxLen) (hok : ∀ w, w ∈ h → WordOk w) (he : (objsS h).2 = 0) : h.length ≤ 4000 ∧ h = flat (objsS h).1 ∧ Placed (objsS h).1 := by
  have hv : objsS h = if decide ((h.length : Int) > 4000) then ([], 2) else objF h (h.length + 1) 0 [] := rfl
  by_cases h4 : h.length ≤ 4000
  · rw [if_neg (by simp; omega)] at hv
    rw [hv] at he ⊢
    obtain ⟨l', hl, hc⟩ := objF_chain hlen hok (h.length + 1) 0 [] (objF h (h.length + 1) 0 []).1 (by omega) (Nat.zero_le _) (by rw [← he])
    rw [List.nil_append] at hl
    rw [← hl] at hc
    have hnums := objF_nums (h := h) (h.length + 1) 0 [] (fun x hx => by cases hx)
    generalize (objF h (h.length + 1) 0 []).1 = l at *
    have hri := chain_right hc
    have hfl := chain_flat hc
    rw [List.drop_zero] at hfl
    exact ⟨h4, hfl, chain_place hc, fun o ho => ⟨hri o ho, hnums o ho, fun w hw => hok w (by rw [hfl]; exact parts_flat ho hw)⟩⟩
  · rw [if_pos (by simp; omega)] at hv
    rw [hv] at he
    cases he

theorem place_mem : ∀ {L : List Obj} {a : Nat} {x : Obj}, x ∈ place a L → ∃ P o Q, L = P ++ o :: Q ∧ x = o.to (a + (flat P).length)
  | [], _, _, h => by cases h
  | o :: L, a, x, h => by
    rcases List.mem_cons.1 h with rfl | h
    · exact ⟨[], o, L, rfl, by simp [flat]⟩
    · obtain ⟨P, o2, Q, rfl, rfl⟩ := place_mem h
      refine ⟨o :: P, o2, Q, rfl, ?_⟩
      have : (flat (o :: P)).length = (encW o).length + (flat P).length := by show (encW o ++ flat P).length = _; rw [List.length_append]
      rw [this, Nat.add_assoc]

theorem placed_split {L : List Obj} (hL : Placed L) {o : Obj} (ho : o ∈ L) : ∃ P Q, L = P ++ o :: Q ∧ o.at_ = (flat P).length := by
  rw [← hL.1] at ho
  obtain ⟨P, o2, Q, hl, rfl⟩ := place_mem ho
  refine ⟨P, Q, ?_, by show ((0 + (flat P).length : Nat) : Int) = _; rw [Nat.zero_add]⟩
  have h1 := hL.1
  rw [hl, place_append] at h1
  obtain ⟨e1, e2⟩ := List.append_inj h1 (place_len _ _)
  have e3 : o2.to (0 + (flat P).length) = o2 := (List.cons.inj e2).1
  rw [e3]; exact hl

/-- The object at its place is read. -/
theorem at_placed {L : List Obj} (hL : Placed L) {o : Obj} (ho : o ∈ L) : atS (flat L) o.at_ = (o, 0) := by
  obtain ⟨P, Q, hl, ha⟩ := placed_split hL ho
  have hk := hL.2 o ho
  rw [hl, flat_append, ha]
  have h := at_enc (flat P) (flat Q) o hk.1 hk.2.1
  rw [show flat (o :: Q) = encW o ++ flat Q from rfl, h]
  have : o.to (flat P).length = o := by cases o; simp only at ha; subst ha; rfl
  rw [this]

theorem placed_inj {L : List Obj} (hL : Placed L) {x y : Obj} (hx : x ∈ L) (hy : y ∈ L) (h : x.at_ = y.at_) : x = y := by
  have h1 := at_placed hL hx
  have h2 := at_placed hL hy
  rw [h] at h1
  rw [h1] at h2
  exact (Prod.mk.inj h2).1

theorem placed_objs {L : List Obj} (hL : Placed L) (h4 : (flat L).length ≤ 4000) : objsS (flat L) = (L, 0) := by
  have h := objs_flat (fun o ho => ⟨(hL.2 o ho).1, (hL.2 o ho).2.1⟩) h4
  rw [hL.1] at h
  exact h

theorem placed_ok {L : List Obj} (hL : Placed L) : ∀ w, w ∈ flat L → WordOk w := flat_ok fun o ho => (hL.2 o ho).2.2

theorem placed_len {L : List Obj} (hL : Placed L) {o : Obj} (ho : o ∈ L) : ∃ n : Nat, o.at_ = n ∧ n + (encW o).length ≤ (flat L).length := by
  obtain ⟨P, Q, hl, ha⟩ := placed_split hL ho
  refine ⟨_, ha, ?_⟩
  rw [hl, flat_append, show flat (o :: Q) = encW o ++ flat Q from rfl, List.length_append, List.length_append]
  omega

theorem count_len {L : List Obj} : L.length ≤ (flat L).length := by
  induction L with
  | nil => exact Nat.zero_le _
  | cons o L ih =>
    rw [show flat (o :: L) = encW o ++ flat L from rfl, List.length_append, List.length_cons]
    have : 1 ≤ (encW o).length := by simp [encW]
    omega

theorem parts_len {L : List Obj} {o : Obj} (ho : o ∈ L) : o.parts.length ≤ (flat L).length := by
  induction L with
  | nil => cases ho
  | cons x L ih =>
    rw [show flat (x :: L) = encW x ++ flat L from rfl, List.length_append]
    rcases List.mem_cons.1 ho with rfl | ho
    · have : o.parts.length ≤ (encW o).length := by unfold encW; simp; omega
      omega
    · have := ih ho; omega

/-- Check, in plain words. -/
theorem firstE_zero {α : Type} {f : α → Int} : ∀ {l : List α}, firstE f l = 0 ↔ ∀ x, x ∈ l → f x = 0
  | [] => ⟨fun _ x hx => (by cases hx), fun _ => rfl⟩
  | y :: l => by
    unfold firstE
    by_cases h : f y = 0
    · rw [if_neg (by simp [h]), firstE_zero]
      exact ⟨fun hh x hx => by rcases List.mem_cons.1 hx with rfl | hx; exact h; exact hh x hx, fun hh x hx => hh x (List.mem_cons_of_mem _ hx)⟩
    · rw [if_pos (by simpa using h)]
      exact ⟨fun hh => absurd hh h, fun hh => hh y List.mem_cons_self⟩

theorem lateF_iff {old : Int} {beg : Int → Bool} : ∀ {late : List Int} {pv : Option Int}, lateF old beg pv late = false ↔ (∀ t, t ∈ late → t < old ∧ beg t = true) ∧ late.Pairwise (· < ·) ∧ ∀ p, pv = some p → ∀ t, t ∈ late → p < t
  | [], pv => ⟨fun _ => ⟨fun t ht => (by cases ht), .nil, fun p _ t ht => (by cases ht)⟩, fun _ => rfl⟩
  | t :: r, pv => by
    unfold lateF
    rw [Bool.or_eq_false_iff, Bool.or_eq_false_iff, Bool.or_eq_false_iff, lateF_iff (late := r)]
    constructor
    · rintro ⟨⟨⟨h1, h2⟩, h3⟩, h4, h5, h6⟩
      have h1 : t < old := by simpa using h1
      have h2 : beg t = true := by simpa using h2
      refine ⟨fun x hx => ?_, List.pairwise_cons.2 ⟨fun x hx => h6 t rfl x hx, h5⟩, fun p hp x hx => ?_⟩
      · rcases List.mem_cons.1 hx with rfl | hx
        · exact ⟨h1, h2⟩
        · exact h4 x hx
      · subst hp
        have h3 : p < t := by simpa [prevB] using h3
        rcases List.mem_cons.1 hx with rfl | hx
        · exact h3
        · have := h6 t rfl x hx; omega
    · rintro ⟨h1, h2, h3⟩
      obtain ⟨h4, h5⟩ := List.pairwise_cons.1 h2
      obtain ⟨a1, a2⟩ := h1 t List.mem_cons_self
      refine ⟨⟨⟨by simpa using a1, by simp [a2]⟩, ?_⟩, fun x hx => h1 x (List.mem_cons_of_mem _ hx), h5, fun p hp x hx => by cases hp; exact h4 x hx⟩
      cases pv with
      | none => rfl
      | some p => have := h3 p rfl t List.mem_cons_self; simpa [prevB] using this

/-- Ages that are right. -/
def GoodA (n old : Int) (late : List Int) (l : List Obj) : Prop :=
  0 ≤ old ∧ begS n l old = true ∧ (∀ t, t ∈ late → t < old ∧ begS n l t = true) ∧ late.Pairwise (· < ·) ∧ ∀ o, o ∈ l → ∀ w, w ∈ o.parts → partE n old (begS n l) late o w = 0

theorem checkO_iff {n old : Int} {late : List Int} {l : List Obj} : checkO n old late l = 0 ↔ GoodA n old late l := by
  unfold checkO GoodA
  by_cases h1 : (decide (old < 0) || !begS n l old) = true
  · rw [if_pos h1]
    refine ⟨fun h => (by cases h), fun ⟨a, b, _⟩ => ?_⟩
    simp [b] at h1
    omega
  · rw [if_neg h1]
    simp only [Bool.or_eq_true, not_or, decide_eq_true_eq, Bool.not_eq_true', Bool.not_eq_false] at h1
    obtain ⟨g1, g2⟩ := h1
    by_cases h2 : lateF old (begS n l) none late = true
    · rw [if_pos h2]
      refine ⟨fun h => (by cases h), fun ⟨_, _, a, b, _⟩ => ?_⟩
      have := (lateF_iff (pv := none)).2 ⟨a, b, fun p hp => by cases hp⟩
      rw [this] at h2; cases h2
    · rw [if_neg h2]
      have h2 : lateF old (begS n l) none late = false := by simpa using h2
      obtain ⟨a, b, _⟩ := lateF_iff.1 h2
      rw [firstE_zero]
      constructor
      · exact fun h => ⟨by omega, g2, a, b, fun o ho => firstE_zero.1 (h o ho)⟩
      · exact fun ⟨_, _, _, _, h⟩ o ho => firstE_zero.2 (h o ho)

theorem hasI_iff {l : List Int} {t : Int} : hasI l t = true ↔ t ∈ l := by
  unfold hasI
  rw [List.any_eq_true]
  exact ⟨fun ⟨x, hx, h⟩ => by have : t = x := by simpa using h
                              rw [this]; exact hx, fun h => ⟨t, h, by simp⟩⟩

theorem begS_iff {n : Int} {l : List Obj} {t : Int} : begS n l t = true ↔ t = n ∨ ∃ o, o ∈ l ∧ o.at_ = t := by
  unfold begS
  rw [Bool.or_eq_true, List.any_eq_true]
  constructor
  · rintro (h | ⟨o, ho, h⟩)
    · exact .inl (by simpa using h)
    · exact .inr ⟨o, ho, by have : t = o.at_ := by simpa using h
                            exact this.symm⟩
  · rintro (h | ⟨o, ho, h⟩)
    · exact .inl (by simpa using h)
    · exact .inr ⟨o, ho, by simp [h]⟩
end Go.Proofs.Ytagphggcdmjlpaa.P

/- A cell that is set, in plain words. -/
namespace Go.Proofs.Ytagphggcdmjlpaa.P
open Go.Ab Go.Proofs.Ytagphggcdmjlpaa.T

theorem right_text {o : Obj} (h : rightS o = true) (hk : o.kind = 5) : o.text = ByteArray.empty := by
  unfold rightS at h
  simp only [hk, Bool.and_eq_true, Bool.not_eq_true', Bool.and_eq_false_iff, bne_self_eq_false] at h
  obtain ⟨_, _, h3, _⟩ := h
  have h3 : (o.text.toList == (⟨#[]⟩ : ByteArray).toList) = true := by
    rcases h3 with h3 | h3
    · simp at h3
    · simpa using h3
  generalize o.text = t at h3
  rw [ByteArray.toList_eq, ByteArray.toList_eq] at h3
  have h3 : t.data.toList = [] := by simpa using h3
  obtain ⟨d⟩ := t
  have : d = #[] := by simpa using h3
  subst this
  rfl

theorem right_parts {o : Obj} (w w' : Int) (hp : o.parts = [w']) (h : rightS o = true) : rightS { o with parts := [w] } = true := by
  obtain ⟨a, k, m, t, ps⟩ := o
  simp only at hp
  subst hp
  exact h

theorem enc_cell {o : Obj} {p : Int} (hr : rightS o = true) (hk : o.kind = 5) (hp : o.parts = [p]) : encW o = [headS o, p] := by
  unfold encW numW
  rw [right_text hr hk, hp, hk]
  rfl

theorem head_parts {o : Obj} (w w' : Int) (hp : o.parts = [w']) : headS { o with parts := [w] } = headS o := by
  obtain ⟨a, k, m, t, ps⟩ := o
  simp only at hp
  subst hp
  rfl

theorem placed_set {P Q : List Obj} {o : Obj} {w p : Int} (hL : Placed (P ++ o :: Q)) (hk : o.kind = 5) (hp : o.parts = [p]) (hw : WordOk w) (ha : o.at_ = (flat P).length) :
    Placed (P ++ { o with parts := [w] } :: Q) ∧ flat (P ++ { o with parts := [w] } :: Q) = (flat (P ++ o :: Q)).set ((flat P).length + 1) w := by
  have ho := hL.2 o (by simp)
  have e1 := enc_cell ho.1 hk hp
  have hr2 := right_parts w p hp ho.1
  have e2 := enc_cell (o := { o with parts := [w] }) hr2 hk rfl
  rw [head_parts w p hp] at e2
  refine ⟨⟨?_, fun x hx => ?_⟩, ?_⟩
  · have h1 := hL.1
    rw [place_append] at h1 ⊢
    obtain ⟨h2, h3⟩ := List.append_inj h1 (place_len _ _)
    rw [h2]
    have h4 : o.to (0 + (flat P).length) :: place (0 + (flat P).length + (encW o).length) Q = o :: Q := h3
    have h5 := (List.cons.inj h4).2
    show P ++ (Obj.to { o with parts := [w] } (0 + (flat P).length)) :: place (0 + (flat P).length + (encW { o with parts := [w] }).length) Q = _
    rw [e2]
    rw [e1] at h5
    simp only [List.length_cons, List.length_nil] at h5 ⊢
    rw [h5]
    have : Obj.to { o with parts := [w] } (0 + (flat P).length) = { o with parts := [w] } := by
      unfold Obj.to; simp only [Nat.zero_add, ← ha]
    rw [this]
  · rcases List.mem_append.1 hx with hx | hx
    · exact hL.2 x (List.mem_append_left _ hx)
    · rcases List.mem_cons.1 hx with rfl | hx
      · exact ⟨hr2, ho.2.1, fun v hv => by rcases List.mem_singleton.1 hv with rfl; exact hw⟩
      · exact hL.2 x (List.mem_append_right _ (List.mem_cons_of_mem _ hx))
  · rw [flat_append, flat_append]
    show flat P ++ (encW { o with parts := [w] } ++ flat Q) = (flat P ++ (encW o ++ flat Q)).set _ w
    rw [e1, e2, List.set_append_right _ _ (by omega)]
    simp

theorem beg_set {P Q : List Obj} {o : Obj} {w n : Int} : begS n (P ++ { o with parts := [w] } :: Q) = begS n (P ++ o :: Q) := by
  funext t
  unfold begS
  simp

/-- Rising places: where one goes in. -/
theorem rising_of {l : List Int} (h : l.Pairwise (· < ·)) (n : Int) : Rising (fun x : Int => x - n) l := fun i j x y hij hx hy hc => by
  have h1 := List.pairwise_iff_getElem.1 h i j (lt_of_get hx) (lt_of_get hy) hij
  have e1 : l[i]'(lt_of_get hx) = x := Option.some.inj (by rw [← List.getElem?_eq_getElem]; exact hx)
  have e2 : l[j]'(lt_of_get hy) = y := Option.some.inj (by rw [← List.getElem?_eq_getElem]; exact hy)
  rw [e1, e2] at h1
  have hc : y - n < 0 := hc
  show x - n < 0
  omega

theorem pos_facts {l : List Int} (h : l.Pairwise (· < ·)) (n : Int) : (∀ x, x ∈ l.take (posOf (fun x : Int => x - n) l) → x < n) ∧ (∀ x, x ∈ l.drop (posOf (fun x : Int => x - n) l) → n ≤ x) ∧ (isAt (fun x : Int => x - n) l = true ↔ n ∈ l) := by
  induction l with
  | nil => exact ⟨fun x hx => (by cases hx), fun x hx => (by cases hx), by simp [isAt, posOf]⟩
  | cons a l ih =>
    obtain ⟨h1, h2⟩ := List.pairwise_cons.1 h
    obtain ⟨i1, i2, i3⟩ := ih h2
    unfold isAt posOf at *
    by_cases hc : 0 ≤ a - n
    · have : List.findIdx (fun x : Int => decide (0 ≤ x - n)) (a :: l) = 0 := by
        rw [List.findIdx_cons]
        show (bif decide (0 ≤ a - n) then 0 else _) = 0
        rw [decide_eq_true hc]; rfl
      rw [this]
      refine ⟨fun x hx => (by cases hx), fun x hx => ?_, ?_⟩
      · rcases List.mem_cons.1 hx with rfl | hx
        · omega
        · have := h1 x hx; omega
      · simp only [List.getElem?_cons_zero, beq_iff_eq, List.mem_cons]
        constructor
        · intro h; left; omega
        · rintro (h | h)
          · omega
          · have := h1 n h; omega
    · have : List.findIdx (fun x : Int => decide (0 ≤ x - n)) (a :: l) = List.findIdx (fun x : Int => decide (0 ≤ x - n)) l + 1 := by
        rw [List.findIdx_cons]
        show (bif decide (0 ≤ a - n) then 0 else _) = _
        rw [decide_eq_false hc]; rfl
      rw [this]
      refine ⟨fun x hx => ?_, fun x hx => i2 x hx, ?_⟩
      · rcases List.mem_cons.1 hx with rfl | hx
        · omega
        · exact i1 x hx
      · rw [List.getElem?_cons_succ, i3, List.mem_cons]
        constructor
        · exact Or.inr
        · rintro (h | h)
          · omega
          · exact h

theorem ins_rising {l : List Int} (h : l.Pairwise (· < ·)) (n : Int) (hn : n ∉ l) : (insL l (posOf (fun x : Int => x - n) l) n).Pairwise (· < ·) := by
  obtain ⟨h1, h2, _⟩ := pos_facts h n
  unfold insL
  generalize posOf (fun x : Int => x - n) l = p at *
  rw [List.pairwise_append]
  refine ⟨h.sublist (List.take_sublist _ _), List.pairwise_cons.2 ⟨fun x hx => ?_, h.sublist (List.drop_sublist _ _)⟩, fun x hx y hy => ?_⟩
  · have := h2 x hx
    have hne : x ≠ n := fun e => hn (by rw [← e]; exact List.mem_of_mem_drop hx)
    omega
  · have h3 := h1 x hx
    rcases List.mem_cons.1 hy with rfl | hy
    · exact h3
    · have := h2 y hy; omega

theorem mem_ins {l : List Int} {p : Nat} {n x : Int} : x ∈ insL l p n ↔ x = n ∨ x ∈ l := by
  unfold insL
  rw [List.mem_append, List.mem_cons]
  constructor
  · rintro (h | h | h)
    · exact .inr (List.mem_of_mem_take h)
    · exact .inl h
    · exact .inr (List.mem_of_mem_drop h)
  · rintro (h | h)
    · exact .inr (.inl h)
    · rw [← List.take_append_drop p l] at h
      rcases List.mem_append.1 h with h | h
      · exact .inl h
      · exact .inr (.inr h)

/-- What the late places are behind Set. -/
theorem setL_facts {old n : Int} {late : List Int} {p : Int × Bool × Int} (h : late.Pairwise (· < ·)) :
    (setL old late n p).Pairwise (· < ·) ∧ (∀ x, x ∈ late → x ∈ setL old late n p) ∧ (∀ x, x ∈ setL old late n p → x ∈ late ∨ (x = n ∧ n < old)) ∧ (p.2.1 = true → n < old → p.1 ≥ old → n ∈ setL old late n p) ∧ (setL old late n p).length ≤ late.length + 1 := by
  unfold setL
  obtain ⟨_, _, hat⟩ := pos_facts h n
  by_cases hc : (p.2.1 && decide (n < old) && decide (p.1 ≥ old)) = true
  · rw [if_pos hc]
    by_cases hf : isAt (fun x : Int => x - n) late = true
    · rw [if_pos hf]
      exact ⟨h, fun x hx => hx, fun x hx => .inl hx, fun _ _ _ => hat.1 hf, Nat.le_succ _⟩
    · rw [if_neg hf]
      have hnm : n ∉ late := fun hm => hf (hat.2 hm)
      simp only [Bool.and_eq_true, decide_eq_true_eq] at hc
      refine ⟨ins_rising h n hnm, fun x hx => mem_ins.2 (.inr hx), fun x hx => ?_, fun _ _ _ => mem_ins.2 (.inl rfl), ?_⟩
      · rcases mem_ins.1 hx with h | h
        · exact .inr ⟨h, hc.1.2⟩
        · exact .inl h
      · unfold insL; simp; omega
  · rw [if_neg hc]
    refine ⟨h, fun x hx => hx, fun x hx => .inl hx, fun h1 h2 h3 => absurd ?_ hc, Nat.le_succ _⟩
    rw [h1, decide_eq_true h2, decide_eq_true h3]
    rfl

theorem partE_more {n old : Int} {beg : Int → Bool} {late late2 : List Int} {o : Obj} {w : Int} (h : ∀ x, x ∈ late → x ∈ late2) (he : partE n old beg late o w = 0) : partE n old beg late2 o w = 0 := by
  unfold partE at he ⊢
  split at he
  · cases he
  · rename_i h1
    rw [if_neg h1]
    split at he
    · cases he
    · rename_i h2
      rw [if_neg]
      intro h3
      refine h2 ?_
      simp only [Bool.and_eq_true, Bool.not_eq_true'] at h3 ⊢
      refine ⟨h3.1, ?_⟩
      cases hh : hasI late o.at_ with
      | false => rfl
      | true => have := hasI_iff.2 (h _ (hasI_iff.1 hh)); rw [this] at h3; exact absurd h3.2 (by simp)

/-- Ages stay right when a cell is set. -/
theorem good_set {P Q : List Obj} {o : Obj} {w p N old : Int} {late : List Int} (hg : GoodA N old late (P ++ o :: Q)) (hp : o.parts = [p]) (hb : begS N (P ++ o :: Q) o.at_ = true)
    (hw : (placeS w).2.2 = 0 ∧ ((placeS w).2.1 = true → (placeS w).1 ≠ N ∧ begS N (P ++ o :: Q) (placeS w).1 = true)) :
    GoodA N old (setL old late o.at_ (placeS w)) (P ++ { o with parts := [w] } :: Q) := by
  obtain ⟨g1, g2, g3, g4, g5⟩ := hg
  obtain ⟨s1, s2, s3, s4, _⟩ := setL_facts (old := old) (n := o.at_) (p := placeS w) g4
  refine ⟨g1, by rw [beg_set]; exact g2, fun t ht => ?_, s1, fun x hx v hv => ?_⟩
  · rw [beg_set]
    rcases s3 t ht with h | ⟨rfl, h⟩
    · exact g3 t h
    · exact ⟨h, hb⟩
  · rw [beg_set]
    rcases List.mem_append.1 hx with hx | hx
    · exact partE_more s2 (g5 x (List.mem_append_left _ hx) v hv)
    · rcases List.mem_cons.1 hx with rfl | hx
      · rcases List.mem_singleton.1 hv with rfl
        obtain ⟨w1, w2⟩ := hw
        unfold partE
        rw [if_neg, if_neg]
        · intro h
          simp only [Bool.and_eq_true, decide_eq_true_eq, Bool.not_eq_true'] at h
          have := s4 h.1.1.1 h.1.1.2 h.1.2
          rw [hasI_iff.2 this] at h
          exact absurd h.2 (by simp)
        · intro h
          rw [w1] at h
          cases hi : (placeS v).2.1 with
          | false => rw [hi] at h; simp at h
          | true =>
            obtain ⟨a, b⟩ := w2 hi
            rw [hi, b] at h
            simp at h
            exact a h
      · exact partE_more s2 (g5 x (List.mem_append_right _ (List.mem_cons_of_mem _ hx)) v hv)
end Go.Proofs.Ytagphggcdmjlpaa.P

/- Set and Check as a whole; R.Begins; the walk of YoungSets. -/
namespace Go.Proofs.Ytagphggcdmjlpaa.P
open Go.Ab Go.Proofs.Ytagphggcdmjlpaa.T

theorem checkC (h : List Int) (old : Int) (late : List Int) (hlen : h.length ≤ maxLen) (hok : ∀ w, w ∈ h → WordOk w) (hlate : late.length ≤ maxLen) : ACallP Try.prog 35 [agesD h old late] (iD (checkY h old late)) := by
  have hob := objects h hlen hok
  unfold checkY
  by_cases he : (objsS h).2 = 0
  · obtain ⟨h4, hf, hp⟩ := heap_flat hlen hok he
    rw [if_neg (by simp [he])]
    rw [he] at hob
    have h1 := count_len (L := (objsS h).1)
    refine checkGood h old late _ hob h4 (by rw [← hf] at h1; omega) hlate fun o ho => ?_
    have := parts_len ho
    rw [← hf] at this
    omega
  · rw [if_pos (by simpa using he)]
    exact checkBad h old _ late _ (by simpa using he) hob

def namedY (h : List Int) (old : Int) (late ws : List Int) : Int := if checkY h old late != 0 then checkY h old late else firstE (nameE h (objsS h).1) ws

theorem namedC (h : List Int) (old : Int) (late ws : List Int) (hlen : h.length ≤ maxLen) (hok : ∀ w, w ∈ h → WordOk w) (hlate : late.length ≤ maxLen) (hws : ws.length ≤ maxLen) : ACallP Try.prog 66 [agesD h old late, words ws] (iD (namedY h old late ws)) := by
  have hck := checkC h old late hlen hok hlate
  unfold namedY
  by_cases he : checkY h old late = 0
  · rw [if_neg (by simp [he])]
    rw [he] at hck
    have h0 : (objsS h).2 = 0 := by
      unfold checkY at he
      by_cases h0 : (objsS h).2 = 0
      · exact h0
      · rw [if_pos (by simpa using h0)] at he; exact he
    obtain ⟨h4, hf, hp⟩ := heap_flat hlen hok h0
    have h1 := count_len (L := (objsS h).1)
    exact namedGood h old _ late ws _ hck (objects h hlen hok) (by rw [← hf] at h1; simp [maxLen]; omega) hlen hok hws
  · rw [if_pos (by simpa using he)]
    exact namedBad h old _ late ws (by simpa using he) hck

/-- Ages that Check finds right. -/
theorem checkY_zero {h : List Int} {old : Int} {late : List Int} (hlen : h.length ≤ maxLen) (hok : ∀ w, w ∈ h → WordOk w) (he : checkY h old late = 0) :
    ∃ L, objsS h = (L, 0) ∧ h = flat L ∧ h.length ≤ 4000 ∧ Placed L ∧ GoodA h.length old late L := by
  unfold checkY at he
  by_cases h0 : (objsS h).2 = 0
  · rw [if_neg (by simp [h0])] at he
    obtain ⟨h4, hf, hp⟩ := heap_flat hlen hok h0
    exact ⟨_, by rw [← h0], hf, h4, hp, checkO_iff.1 he⟩
  · rw [if_pos (by simpa using h0)] at he; exact absurd he h0

theorem checkY_flat {L : List Obj} {old : Int} {late : List Int} (hp : Placed L) (h4 : (flat L).length ≤ 4000) (hg : GoodA (flat L).length old late L) : checkY (flat L) old late = 0 := by
  unfold checkY
  rw [placed_objs hp h4]
  exact checkO_iff.2 hg

/-- A word that names an object, or none. -/
def NameOk (L : List Obj) (w : Int) : Prop := (placeS w).2.2 = 0 ∧ ((placeS w).2.1 = true → ∃ o, o ∈ L ∧ o.at_ = (placeS w).1)

theorem nameE_zero {L : List Obj} {w : Int} (hp : Placed L) : nameE (flat L) L w = 0 ↔ NameOk L w := by
  unfold nameE NameOk
  by_cases h1 : (placeS w).2.2 = 0
  · rw [if_neg (by simp [h1])]
    cases hi : (placeS w).2.1 with
    | false => simp [h1]
    | true =>
      by_cases h2 : ∃ o, o ∈ L ∧ o.at_ = (placeS w).1
      · obtain ⟨o, ho, ha⟩ := h2
        have h3 := at_placed hp ho
        rw [ha] at h3
        have h4 : (L.any fun o => o.at_ == (placeS w).1) = true := List.any_eq_true.2 ⟨o, ho, by simp [ha]⟩
        rw [h3, h4]
        simp only [bne_self_eq_false, Bool.and_false, Bool.not_true, Bool.or_false, Bool.false_eq_true, if_false, true_iff]
        exact ⟨h1, fun _ => ⟨o, ho, ha⟩⟩
      · have h4 : (L.any fun o => o.at_ == (placeS w).1) = false := by
          rw [Bool.eq_false_iff]
          intro h
          obtain ⟨o, ho, ha⟩ := List.any_eq_true.1 h
          exact h2 ⟨o, ho, by simpa using ha⟩
        rw [h4, if_pos (by simp)]
        exact ⟨fun h => (by cases h), fun h => absurd (h.2 rfl) h2⟩
  · rw [if_pos (by simpa using h1)]
    exact ⟨fun h => absurd h h1, fun h => absurd h.1 h1⟩

theorem namedY_zero {h : List Int} {old : Int} {late ws : List Int} (hlen : h.length ≤ maxLen) (hok : ∀ w, w ∈ h → WordOk w) (he : namedY h old late ws = 0) :
    ∃ L, objsS h = (L, 0) ∧ h = flat L ∧ h.length ≤ 4000 ∧ Placed L ∧ GoodA h.length old late L ∧ checkY h old late = 0 ∧ ∀ w, w ∈ ws → NameOk L w := by
  unfold namedY at he
  by_cases hc : checkY h old late = 0
  · rw [if_neg (by simp [hc])] at he
    obtain ⟨L, h1, h2, h3, h4, h5⟩ := checkY_zero hlen hok hc
    refine ⟨L, h1, h2, h3, h4, h5, hc, fun w hw => ?_⟩
    have := firstE_zero.1 he w hw
    rw [h1] at this
    rw [h2] at this
    exact (nameE_zero h4).1 this
  · rw [if_pos (by simpa using hc)] at he; exact absurd he hc

theorem namedY_flat {L : List Obj} {old : Int} {late ws : List Int} (hp : Placed L) (h4 : (flat L).length ≤ 4000) (hg : GoodA (flat L).length old late L) (hw : ∀ w, w ∈ ws → NameOk L w) : namedY (flat L) old late ws = 0 := by
  unfold namedY
  rw [if_neg (by rw [checkY_flat hp h4 hg]; simp), placed_objs hp h4]
  exact firstE_zero.2 fun w hwm => (nameE_zero hp).2 (hw w hwm)

theorem late_small {L : List Obj} {n old : Int} {late : List Int} (hg : GoodA n old late L) (hn : ∀ o, o ∈ L → 0 ≤ o.at_ ∧ o.at_ ≤ n) (hn0 : 0 ≤ n) (h4 : n ≤ 4000) : late.length ≤ 4001 := by
  obtain ⟨_, _, h3, h5, _⟩ := hg
  have hr : ∀ t, t ∈ late → 0 ≤ t ∧ t ≤ 4000 := fun t ht => by
    obtain ⟨_, hb⟩ := h3 t ht
    rcases begS_iff.1 hb with rfl | ⟨o, ho, rfl⟩
    · exact ⟨hn0, h4⟩
    · have := hn o ho; omega
  have key : ∀ (l : List Int) (a : Int), (∀ t, t ∈ l → a ≤ t ∧ t ≤ 4000) → l.Pairwise (· < ·) → a ≤ 4001 → (l.length : Int) ≤ 4001 - a := by
    intro l
    induction l with
    | nil => intro a _ _ h; simp; omega
    | cons x l ih =>
      intro a h1 h2 h3
      obtain ⟨h4, h5⟩ := List.pairwise_cons.1 h2
      have hx := h1 x List.mem_cons_self
      have := ih (x + 1) (fun t ht => ⟨by have := h4 t ht; omega, (h1 t (List.mem_cons_of_mem _ ht)).2⟩) h5 (by omega)
      simp only [List.length_cons]
      omega
  have := key late 0 hr h5 (by omega)
  omega

/-- What Set does: a cell of the heap is set, or nothing. -/
theorem setC (h : List Int) (old a w : Int) (late : List Int) (hlen : h.length ≤ maxLen) (hok : ∀ w, w ∈ h → WordOk w) (hlate : late.length ≤ maxLen) (hw : WordOk w) :
    (∃ e, e ≠ 0 ∧ ACallP Try.prog 33 [agesD h old late, iD a, wD w] (.tup [zagesD, iD e])) ∨
    ∃ (P : List Obj) (o : Obj) (Q : List Obj) (p : Int), Placed (P ++ o :: Q) ∧ h = flat (P ++ o :: Q) ∧ h.length ≤ 4000 ∧ GoodA h.length old late (P ++ o :: Q) ∧ NameOk (P ++ o :: Q) w ∧ a = o.at_ ∧ o.at_ = (flat P).length ∧ o.kind = 5 ∧ o.parts = [p] ∧ late.length ≤ 4001 ∧
      ACallP Try.prog 33 [agesD h old late, iD a, wD w] (.tup [agesD (flat (P ++ { o with parts := [w] } :: Q)) old (setL old late a (placeS w)), iD 0]) := by
  have hnm := namedC h old late [w] hlen hok hlate (by simp [maxLen])
  by_cases he : namedY h old late [w] = 0
  · obtain ⟨L, h1, h2, h3, h4, h5, h6, h7⟩ := namedY_zero hlen hok he
    rw [he] at hnm
    have hat := at_ h a hlen hok
    have hll : L.length ≤ maxLen := by
      have h1 := count_len (L := L)
      rw [← h2] at h1; simp [maxLen]; omega
    have hob := objects h hlen hok
    rw [h1] at hob
    have hbe := begins h L 0 a hob hll
    obtain ⟨B, hB⟩ : ∃ B, (L.any fun o => o.at_ == a) = B := ⟨_, rfl⟩
    rw [hB] at hbe
    by_cases hc : ((atS h a).2 != 0 || !B) = true
    · exact .inl ⟨4, by omega, setNone h old a w _ late _ B hnm hat hbe hc⟩
    · simp only [Bool.or_eq_true, not_or, Bool.not_eq_true', bne_iff_ne, ne_eq, Decidable.not_not, Bool.not_eq_false] at hc
      obtain ⟨c1, rfl⟩ := hc
      obtain ⟨o, ho, hoa⟩ := List.any_eq_true.1 hB
      have hoa : o.at_ = a := by simpa using hoa
      subst hoa
      have hao := at_placed h4 ho
      rw [← h2] at hao
      rw [hao] at hat
      by_cases hc2 : ((o.kind != 5) || (o.parts.length : Int) != 1) = true
      · exact .inl ⟨12, by omega, setType h old o.at_ w late o hnm hat hbe hc2⟩
      · refine .inr ?_
        simp only [Bool.or_eq_true, not_or, bne_iff_ne, ne_eq, Decidable.not_not] at hc2
        obtain ⟨k5, k1⟩ := hc2
        obtain ⟨p, hp⟩ : ∃ p, o.parts = [p] := by
          match hm : o.parts with
          | [p] => exact ⟨p, rfl⟩
          | [] => rw [hm] at k1; cases k1
          | p :: q :: r => rw [hm] at k1; simp at k1; omega
        obtain ⟨P, Q, hL, ha⟩ := placed_split h4 ho
        subst hL
        have hls : late.length ≤ 4001 := late_small h5 (fun x hx => by
          obtain ⟨n, e1, e2⟩ := placed_len h4 hx
          rw [← h2] at e2
          omega) (by omega) (by omega)
        obtain ⟨hp2, hf2⟩ := placed_set (w := w) h4 k5 hp hw ha
        refine ⟨P, o, Q, p, h4, h2, h3, h5, h7 w List.mem_cons_self, rfl, ha, k5, hp, hls, ?_⟩
        have henc := enc_cell (h4.2 o ho).1 k5 hp
        have hnl : (flat P).length + 1 < h.length := by
          rw [h2, flat_append, show flat (o :: Q) = encW o ++ flat Q from rfl, henc, List.length_append, List.length_append]
          simp; omega
        rw [ha] at hat hbe
        have := setOk h old w (flat P).length late o hnm hat hbe (by simp [k5]) (by simp [hp]) h3 hnl (by omega) (rising_of h5.2.2.2.1 _)
        rw [← ha] at this
        rw [hf2, ← h2]
        exact this
  · exact .inl ⟨_, he, setBad h old a w _ late (by simpa using he) hnm⟩


theorem beginsR (l : List Obj) (hlen : l.length ≤ maxLen) (a : Int) : ACallP Try.prog 36 [objs l, iD a] (bD (l.any fun o => o.at_ == a)) := by
  obtain ⟨V, hV⟩ : ∃ V, V = (l.any fun o => o.at_ == a) := ⟨_, rfl⟩
  rw [← hV]
  refine acallp_fn [4] Try.func36 rfl rfl Try.ntmps36 (by simp) fun R hR => ?_
  (refine awp_reg_seq [0, 1] fun K hK => ?_; (repeat' ((refine al_r rfl fun K' hK' => ?_); (repeat (simp only [go_sem, simprocAttr, List.length_map])); ((refine hK' _ _ ?_) <;> clear hK' K'))); all_goals (refine al_nil ?_; (simp only [go_sem, simprocAttr, List.length_map]); refine hK _ ?_; clear hK K))
  refine awp_seq_k fun K hK => ?_
  (refine awp_reg_seq [1, 7, 8, 9] fun K hK => ?_; (repeat' ((refine al_r rfl fun K' hK' => ?_); (repeat (simp only [go_sem, simprocAttr, List.length_map])); ((first | refine hK' _ _ ?_ | refine ⟨?_, hK' _ _ ?_⟩) <;> clear hK' K' <;> (first | (show alist _ _ _ _ _ _; skip) | (intro s hs; cases hs; done))))); all_goals (refine al_nil ?_; (simp only [go_sem, simprocAttr, List.length_map]); refine hK _ ?_; clear hK K))
  refine awp_block ?_
  -- loop 0 head [1, 7, 8, 9]
  refine awp_loop_cut (fun m s => ∃ i : Nat, i ≤ l.length ∧ m = l.length - i ∧ V = ((l.drop i).any fun o => o.at_ == a) ∧ s = ⟨ofL [(1, iD a), (7, objs l), (8, iD l.length), (9, iD i)], [], 0⟩) ⟨_, 0, Nat.zero_le _, rfl, hV, rfl⟩ ?_
  clear hV
  rintro m s ⟨i, hi, hm, hV, rfl⟩
  (refine awp_reg_seq [1, 7, 8, 9, 10] fun K hK => ?_; (repeat' ((refine al_r rfl fun K' hK' => ?_); (repeat (simp only [go_sem, simprocAttr, List.length_map])); ((refine hK' _ _ ?_) <;> clear hK' K'))); all_goals (refine al_nil ?_; (simp only [go_sem, simprocAttr, List.length_map]); refine hK _ ?_; clear hK K))
  refine awp_seq_k fun K hK => ?_
  refine awp_if (decide ((i : Int) < (l.length : Int))) rfl (fun hc => ?_) (fun hc => ?_)
  · refine awp_skip ?_
    refine hK _ ?_; clear hK K
    refine awp_seq_k fun K hK => ?_
    refine awp_block ?_
    have hi2 : i < l.length := by simpa using hc
    obtain ⟨o, hget⟩ := get_of_lt hi2
    have hnn : (0 : Int) ≤ (i : Int) := Int.natCast_nonneg i
    have hnx : IntKind.i64.wrap ((i : Int) + 1) = ((i + 1 : Nat) : Int) := wrap_next hi2 hlen
    rw [drop_of hget] at hV
    have hV2 : V = ((o.at_ == a) || ((l.drop (i + 1)).any fun o => o.at_ == a)) := hV
    clear hV

    (refine awp_reg_seq [1, 6, 7, 8, 9] fun K hK => ?_; (repeat' ((first | refine al_r rfl fun K' hK' => ?_ | refine al_d rfl fun K' hK' => ?_); (repeat (first | (simp only [go_sem, simprocAttr, hget, hnn, hi2, hnx, Int.toNat_natCast, List.getElem?_map, Option.map_some, List.length_map, Obj.row]) | refine AS.mk ?_)); ((first | refine hK' _ _ ?_ | refine ⟨?_, hK' _ _ ?_⟩) <;> clear hK' K' <;> (first | (show alist _ _ _ _ _ _; skip) | (simp; done))))); all_goals (refine al_nil ?_; (simp only [go_sem, simprocAttr, hget, hnn, hi2, hnx, Int.toNat_natCast, List.getElem?_map, Option.map_some, List.length_map, Obj.row]); refine hK _ ?_; clear hK K))
    (refine awp_reg_seq [1, 7, 8, 9, 16] fun K hK => ?_; (repeat' ((refine al_r rfl fun K' hK' => ?_); (repeat (simp only [go_sem, simprocAttr, hget, hnn, hi2, hnx, Int.toNat_natCast, List.getElem?_map, Option.map_some, List.length_map, Obj.row])); ((refine hK' _ _ ?_) <;> clear hK' K'))); all_goals (refine al_nil ?_; (simp only [go_sem, simprocAttr, hget, hnn, hi2, hnx, Int.toNat_natCast, List.getElem?_map, Option.map_some, List.length_map, Obj.row]); refine hK _ ?_; clear hK K))
    refine awp_if (o.at_ == a) rfl (fun hc => ?_) (fun hc => ?_)
    · (refine awp_reg_seq [4] fun K hK => ?_; (repeat' ((refine al_r rfl fun K' hK' => ?_); (repeat (simp only [go_sem, simprocAttr, hget, hnn, hi2, hnx, Int.toNat_natCast, List.getElem?_map, Option.map_some, List.length_map, Obj.row])); ((refine hK' _ _ ?_) <;> clear hK' K'))); all_goals (refine al_nil ?_; (simp only [go_sem, simprocAttr, hget, hnn, hi2, hnx, Int.toNat_natCast, List.getElem?_map, Option.map_some, List.length_map, Obj.row]); refine hK _ ?_; clear hK K))
      refine awp_ret ?_; (refine hR _ _ (.inl rfl) rfl ?_)
      rw [hV2, hc]
      simp only [go_sem, simprocAttr, hget, hnn, hi2, hnx, Int.toNat_natCast, List.getElem?_map, Option.map_some, List.length_map, Obj.row, Bool.true_or]
    · rw [hc, Bool.false_or] at hV2
      refine awp_skip ?_
      refine hK _ ?_; clear hK K
      (refine awp_reg_end [1, 7, 8, 9] fun K hK => ?_; (repeat' ((refine al_r rfl fun K' hK' => ?_); (repeat (simp only [go_sem, simprocAttr, hget, hnn, hi2, hnx, Int.toNat_natCast, List.getElem?_map, Option.map_some, List.length_map, Obj.row])); ((refine hK' _ _ ?_) <;> clear hK' K'))); all_goals (refine al_nil ?_; (simp only [go_sem, simprocAttr, hget, hnn, hi2, hnx, Int.toNat_natCast, List.getElem?_map, Option.map_some, List.length_map, Obj.row]); refine hK _ ?_; clear hK K))
      exact ⟨l.length - (i + 1), by omega, [1, 7, 8, 9], [], by decide, by intro q hq; exact absurd hq (Nat.not_lt_zero q), i + 1, hi2, rfl, hV2, rfl⟩

  · have hie : i = l.length := by simp at hc; omega
    rw [hie, List.drop_length] at hV
    refine awp_exit ?_
    clear hK
    refine hK _ ?_; clear hK K
    (refine awp_reg_seq [4] fun K hK => ?_; (repeat' ((refine al_r rfl fun K' hK' => ?_); (repeat (simp only [go_sem, simprocAttr, List.length_map])); ((refine hK' _ _ ?_) <;> clear hK' K'))); all_goals (refine al_nil ?_; (simp only [go_sem, simprocAttr, List.length_map]); refine hK _ ?_; clear hK K))
    refine awp_ret ?_; (refine hR _ _ (.inl rfl) rfl ?_)
    rw [hV]
    simp only [go_sem, simprocAttr, List.length_map]
    try rfl
end Go.Proofs.Ytagphggcdmjlpaa.P

/- The walk of YoungSets. -/
namespace Go.Proofs.Ytagphggcdmjlpaa.P
open Go.Ab Go.Proofs.Ytagphggcdmjlpaa.T


theorem setsBad (h : List Int) (old a w other e : Int) (late : List Int) (he : (e != 0) = true) (hset : ACallP Try.prog 33 [agesD h old late, iD a, wD w] (.tup [zagesD, iD e])) : ACallP Try.prog 9 [agesD h old late, iD a, wD w, iD other] (bD true) := by
  refine acallp_fn [8] Try.func9 rfl rfl Try.ntmps9 (by simp) fun R hR => ?_
  (refine awp_reg_seq [1, 2, 3, 4] fun K hK => ?_; (repeat' ((refine al_r rfl fun K' hK' => ?_); (repeat (simp only [go_sem, simprocAttr, he, List.length_nil, beq_self_eq_true])); ((refine hK' _ _ ?_) <;> clear hK' K'))); all_goals (refine al_nil ?_; (simp only [go_sem, simprocAttr, he, List.length_nil, beq_self_eq_true]); refine hK _ ?_; clear hK K))
  (refine awp_frz [1, 2, 3, 4] [] (by decide) (by (simp; done)) ?_; simp only [go_sem, simprocAttr, he, List.length_nil, beq_self_eq_true])
  (refine awp_reg_seq [1, 2, 3, 4, 9, 10] fun K hK => ?_; (repeat' ((first | refine al_r rfl fun K' hK' => ?_ | refine al_d rfl fun K' hK' => ?_); (repeat (first | (simp only [go_sem, simprocAttr, he, List.length_nil, beq_self_eq_true]) | refine AS.mk ?_)); (first | ((first | refine hK' _ _ ?_ | refine ⟨?_, hK' _ _ ?_⟩) <;> clear hK' K' <;> (first | (show alist _ _ _ _ _ _; skip) | (simp; done))) | ((show AC _ _ (D.fn 33 _) _ _); refine acall_p (f := 33) (e := rfl) (hr := rfl) (k := hK' _ _ ?_) (hc := Try.call33) (h := hset); clear hK' K')))); all_goals (refine al_nil ?_; (simp only [go_sem, simprocAttr, he, List.length_nil, beq_self_eq_true]); refine hK _ ?_; clear hK K))
  refine awp_seq_k fun K hK => ?_
  (refine awp_reg_seq [1, 2, 3, 4, 9, 31] fun K hK => ?_; (repeat' ((first | refine al_r rfl fun K' hK' => ?_ | refine al_t rfl rfl fun K' hK' => ?_); (repeat (simp only [go_sem, simprocAttr, he, List.length_nil, beq_self_eq_true])); (first | ((refine hK' _ _ ?_) <;> clear hK' K') | ((show AC _ _ (D.fn 34 _) _ _); refine acall_p (f := 34) (e := rfl) (hr := rfl) (k := hK' _ _ ?_) (hc := Try.call34) (h := youths); clear hK' K')))); all_goals (refine al_nil ?_; (simp only [go_sem, simprocAttr, he, List.length_nil, beq_self_eq_true]); refine hK _ ?_; clear hK K))
  refine awp_if (_) rfl (fun hc => ?_) (fun hc => ?_)
  · (refine awp_reg_seq [8] fun K hK => ?_; (repeat' ((first | refine al_r rfl fun K' hK' => ?_ | refine al_t rfl rfl fun K' hK' => ?_); (repeat (simp only [go_sem, simprocAttr, he, List.length_nil, beq_self_eq_true])); (first | ((first | refine hK' _ _ ?_ | refine ⟨?_, hK' _ _ ?_⟩) <;> clear hK' K' <;> (first | (show alist _ _ _ _ _ _; skip) | (intro s hs; cases hs; done))) | ((show AC _ _ (D.fn 34 _) _ _); refine acall_p (f := 34) (e := rfl) (hr := rfl) (k := hK' _ _ ?_) (hc := Try.call34) (h := youths); clear hK' K')))); all_goals (refine al_nil ?_; (simp only [go_sem, simprocAttr, he, List.length_nil, beq_self_eq_true]); refine hK _ ?_; clear hK K))
    all_goals (refine awp_ret ?_; (refine hR _ _ (.inl rfl) rfl ?_); (simp only [go_sem, simprocAttr, he, List.length_nil, beq_self_eq_true, *, Bool.and_true, Bool.and_false, Bool.true_and, Bool.false_and, Bool.or_true, Bool.true_or, Bool.or_false, Bool.false_or, Bool.not_true, Bool.not_false, Bool.false_eq_true]; done))
  · cases hc


theorem setsGood (h h2 : List Int) (old a w other e e1 e2 : Int) (late late2 : List Int) (l : List Obj) (B : Bool) (oa on pa pk pn qa qk qn : Int) (ot pt qt : ByteArray) (pp qp : List Int)
    (hset : ACallP Try.prog 33 [agesD h old late, iD a, wD w] (.tup [agesD h2 old late2, iD 0]))
    (hat2 : ACallP Try.prog 19 [words h2, iD a] (.tup [.agg [iD oa, iD 5, iD on, .p (.lit (.string ot)), words [w]], iD 0])) (hp : ACallP Try.prog 19 [words h, iD other] (.tup [.agg [iD pa, iD pk, iD pn, .p (.lit (.string pt)), words pp], iD e1]))
    (hq : ACallP Try.prog 19 [words h2, iD other] (.tup [.agg [iD qa, iD qk, iD qn, .p (.lit (.string qt)), words qp], iD e2]))
    (hck : ACallP Try.prog 35 [agesD h2 old late2] (iD 0)) (hob : ACallP Try.prog 15 [words h] (.tup [objs l, iD e])) (hbe : ACallP Try.prog 36 [objs l, iD other] (bD B))
    (hsame : ((other == a) || !B) = false → e1 = 0 ∧ e2 = 0 ∧ qk = pk ∧ qt = pt ∧ qn = pn ∧ qp = pp) (hpl : pp.length ≤ maxLen) :
    ACallP Try.prog 9 [agesD h old late, iD a, wD w, iD other] (bD true) := by
  have heqw : ACallP Try.prog 21 [words [w], words [w]] (bD true) := equalU_same [w] (by simp [maxLen])
  have heqp : ACallP Try.prog 21 [words pp, words pp] (bD true) := equalU_same pp hpl
  obtain ⟨X, hX⟩ : ∃ X, (other == a) = X := ⟨_, rfl⟩
  rw [hX] at hsame
  refine acallp_fn [8] Try.func9 rfl rfl Try.ntmps9 (by simp) fun R hR => ?_
  (refine awp_reg_seq [1, 2, 3, 4] fun K hK => ?_; (repeat' ((refine al_r rfl fun K' hK' => ?_); (repeat (simp only [go_sem, simprocAttr, bne_self_eq_false, List.length_map, beq_self_eq_true])); ((refine hK' _ _ ?_) <;> clear hK' K'))); all_goals (refine al_nil ?_; (simp only [go_sem, simprocAttr, bne_self_eq_false, List.length_map, beq_self_eq_true]); refine hK _ ?_; clear hK K))
  (refine awp_frz [1, 2, 3, 4] [] (by decide) (by (simp; done)) ?_; simp only [go_sem, simprocAttr, bne_self_eq_false, List.length_map, beq_self_eq_true])
  (refine awp_reg_seq [1, 2, 3, 4, 9, 10] fun K hK => ?_; (repeat' ((first | refine al_r rfl fun K' hK' => ?_ | refine al_d rfl fun K' hK' => ?_); (repeat (first | (simp only [go_sem, simprocAttr, bne_self_eq_false, List.length_map, beq_self_eq_true]) | refine AS.mk ?_)); (first | ((first | refine hK' _ _ ?_ | refine ⟨?_, hK' _ _ ?_⟩) <;> clear hK' K' <;> (first | (show alist _ _ _ _ _ _; skip) | (simp; done))) | ((show AC _ _ (D.fn 33 _) _ _); refine acall_p (f := 33) (e := rfl) (hr := rfl) (k := hK' _ _ ?_) (hc := Try.call33) (h := hset); clear hK' K')))); all_goals (refine al_nil ?_; (simp only [go_sem, simprocAttr, bne_self_eq_false, List.length_map, beq_self_eq_true]); refine hK _ ?_; clear hK K))
  (refine awp_frz [1, 2, 3, 4, 9, 10] [] (by decide) (by (simp; done)) ?_; simp only [go_sem, simprocAttr, bne_self_eq_false, List.length_map, beq_self_eq_true])
  refine awp_seq_k fun K hK => ?_
  (refine awp_reg_seq [1, 2, 3, 4, 9, 31] fun K hK => ?_; (repeat' ((first | refine al_r rfl fun K' hK' => ?_ | refine al_t rfl rfl fun K' hK' => ?_); (repeat (simp only [go_sem, simprocAttr, bne_self_eq_false, List.length_map, beq_self_eq_true])); (first | ((refine hK' _ _ ?_) <;> clear hK' K') | ((show AC _ _ (D.fn 34 _) _ _); refine acall_p (f := 34) (e := rfl) (hr := rfl) (k := hK' _ _ ?_) (hc := Try.call34) (h := youths); clear hK' K')))); all_goals (refine al_nil ?_; (simp only [go_sem, simprocAttr, bne_self_eq_false, List.length_map, beq_self_eq_true]); refine hK _ ?_; clear hK K))
  refine awp_if (_) rfl (fun hc => ?_) (fun hc => ?_)
  · cases hc
  · refine awp_skip ?_
    refine hK _ ?_; clear hK K
    (refine awp_reg_seq [1, 2, 3, 4, 9, 11, 12] fun K hK => ?_; (repeat' ((first | refine al_r rfl fun K' hK' => ?_ | refine al_d rfl fun K' hK' => ?_); (repeat (first | (simp only [go_sem, simprocAttr, bne_self_eq_false, List.length_map, beq_self_eq_true]) | refine AS.mk ?_)); (first | ((first | refine hK' _ _ ?_ | refine ⟨?_, hK' _ _ ?_⟩) <;> clear hK' K' <;> (first | (show alist _ _ _ _ _ _; skip) | (simp; done))) | ((show AC _ _ (D.fn 19 _) _ _); refine acall_p (f := 19) (e := rfl) (hr := rfl) (k := hK' _ _ ?_) (hc := Try.call19) (h := hat2); clear hK' K')))); all_goals (refine al_nil ?_; (simp only [go_sem, simprocAttr, bne_self_eq_false, List.length_map, beq_self_eq_true]); refine hK _ ?_; clear hK K))
    (refine awp_frz [1, 2, 3, 4, 9, 11, 12] [] (by decide) (by (simp; done)) ?_; simp only [go_sem, simprocAttr, bne_self_eq_false, List.length_map, beq_self_eq_true])
    (refine awp_reg_seq [1, 2, 3, 4, 9, 11, 12, 13, 14] fun K hK => ?_; (repeat' ((first | refine al_r rfl fun K' hK' => ?_ | refine al_d rfl fun K' hK' => ?_); (repeat (first | (simp only [go_sem, simprocAttr, bne_self_eq_false, List.length_map, beq_self_eq_true]) | refine AS.mk ?_)); (first | ((first | refine hK' _ _ ?_ | refine ⟨?_, hK' _ _ ?_⟩) <;> clear hK' K' <;> (first | (show alist _ _ _ _ _ _; skip) | (simp; done))) | ((show AC _ _ (D.fn 19 _) _ _); refine acall_p (f := 19) (e := rfl) (hr := rfl) (k := hK' _ _ ?_) (hc := Try.call19) (h := hp); clear hK' K')))); all_goals (refine al_nil ?_; (simp only [go_sem, simprocAttr, bne_self_eq_false, List.length_map, beq_self_eq_true]); refine hK _ ?_; clear hK K))
    (refine awp_frz [1, 2, 3, 4, 9, 11, 12, 13, 14] [] (by decide) (by (simp; done)) ?_; simp only [go_sem, simprocAttr, bne_self_eq_false, List.length_map, beq_self_eq_true])
    (refine awp_reg_seq [1, 2, 3, 4, 9, 11, 12, 13, 14, 15, 16] fun K hK => ?_; (repeat' ((first | refine al_r rfl fun K' hK' => ?_ | refine al_d rfl fun K' hK' => ?_); (repeat (first | (simp only [go_sem, simprocAttr, bne_self_eq_false, List.length_map, beq_self_eq_true]) | refine AS.mk ?_)); (first | ((first | refine hK' _ _ ?_ | refine ⟨?_, hK' _ _ ?_⟩) <;> clear hK' K' <;> (first | (show alist _ _ _ _ _ _; skip) | (simp; done))) | ((show AC _ _ (D.fn 19 _) _ _); refine acall_p (f := 19) (e := rfl) (hr := rfl) (k := hK' _ _ ?_) (hc := Try.call19) (h := hq); clear hK' K')))); all_goals (refine al_nil ?_; (simp only [go_sem, simprocAttr, bne_self_eq_false, List.length_map, beq_self_eq_true]); refine hK _ ?_; clear hK K))
    (refine awp_frz [1, 2, 3, 4, 9, 11, 12, 13, 14, 15, 16] [] (by decide) (by (simp; done)) ?_; simp only [go_sem, simprocAttr, bne_self_eq_false, List.length_map, beq_self_eq_true])
    refine awp_seq_k fun K hK => ?_
    (refine awp_reg_seq [1, 3, 4, 13, 14, 15, 16, 79] fun K hK => ?_; (repeat' ((first | refine al_r rfl fun K' hK' => ?_ | refine al_t rfl rfl fun K' hK' => ?_); (repeat (simp only [go_sem, simprocAttr, bne_self_eq_false, List.length_map, beq_self_eq_true])); (first | ((refine hK' _ _ ?_) <;> clear hK' K') | ((show AC _ _ (D.fn 21 _) _ _); refine acall_g (f := 21) (e := rfl) (hr := rfl) (hf := by simp [D.all, D.allL, flatL, flatPV]) (k := hK' _ _ ?_) (hc := Try.call21) (h := heqw); clear hK' K') | ((show AC _ _ (D.fn 35 _) _ _); refine acall_p (f := 35) (e := rfl) (hr := rfl) (k := hK' _ _ ?_) (hc := Try.call35) (h := hck); clear hK' K')))); all_goals (refine al_nil ?_; (simp only [go_sem, simprocAttr, bne_self_eq_false, List.length_map, beq_self_eq_true]); refine hK _ ?_; clear hK K))
    (refine awp_frz [1, 3, 4, 13, 14, 15, 16, 79] [] (by decide) (by (simp; done)) ?_; simp only [go_sem, simprocAttr, bne_self_eq_false, List.length_map, beq_self_eq_true])
    refine awp_if (_) rfl (fun hc => ?_) (fun hc => ?_)
    · cases hc
    · refine awp_skip ?_
      refine hK _ ?_; clear hK K
      (refine awp_reg_seq [1, 3, 13, 14, 15, 16, 17] fun K hK => ?_; (repeat' ((refine al_r rfl fun K' hK' => ?_); (repeat (simp only [go_sem, simprocAttr, bne_self_eq_false, List.length_map, beq_self_eq_true])); (first | ((refine hK' _ _ ?_) <;> clear hK' K') | ((show AC _ _ (D.fn 15 _) _ _); refine acall_p (f := 15) (e := rfl) (hr := rfl) (k := hK' _ _ ?_) (hc := Try.call15) (h := hob); clear hK' K')))); all_goals (refine al_nil ?_; (simp only [go_sem, simprocAttr, bne_self_eq_false, List.length_map, beq_self_eq_true]); refine hK _ ?_; clear hK K))
      refine awp_seq_k fun K hK => ?_

      refine awp_reg_tov [13, 14, 15, 16, 94] [(94, bD (X || !B))] (h := ?_) (k := ?_)
      · cases X <;> cases B
        all_goals ((repeat' (first | ((first | refine al_r rfl fun K' hK' => ?_ | refine al_t rfl rfl fun K' hK' => ?_); (repeat (simp only [go_sem, simprocAttr, hX])); (first | ((refine hK' _ _ ?_) <;> clear hK' K') | ((show AC _ _ (D.fn 36 _) _ _); refine acall_p (f := 36) (e := rfl) (hr := rfl) (k := hK' _ _ ?_) (hc := Try.call36) (h := hbe); clear hK' K'))) | refine al_e rfl rfl ?_)); all_goals (refine al_nil ?_; (simp only [go_sem, simprocAttr, hX, *, Bool.and_true, Bool.and_false, Bool.true_and, Bool.false_and, Bool.or_true, Bool.true_or, Bool.or_false, Bool.false_or, Bool.not_true, Bool.not_false, Bool.false_eq_true]; done)))
      (intro K hK; (simp only [go_sem, simprocAttr, hX]); refine hK _ ?_; clear hK K)
      refine awp_if (X || !B) rfl (fun hc => ?_) (fun hc => ?_)
      · (refine awp_reg_seq [8] fun K hK => ?_; (repeat' ((refine al_r rfl fun K' hK' => ?_); (repeat (simp only [go_sem, simprocAttr, hX])); ((refine hK' _ _ ?_) <;> clear hK' K'))); all_goals (refine al_nil ?_; (simp only [go_sem, simprocAttr, hX]); refine hK _ ?_; clear hK K))
        all_goals (refine awp_ret ?_; (refine hR _ _ (.inl rfl) rfl ?_); (simp only [go_sem, simprocAttr, hX, *, Bool.and_true, Bool.and_false, Bool.true_and, Bool.false_and, Bool.or_true, Bool.true_or, Bool.or_false, Bool.false_or, Bool.not_true, Bool.not_false, Bool.false_eq_true]; done))
      · obtain ⟨rfl, rfl, rfl, rfl, rfl, rfl⟩ := hsame hc
        refine awp_skip ?_
        refine hK _ ?_; clear hK K
        (refine awp_reg_seq [8] fun K hK => ?_; (repeat' (first | ((first | refine al_r rfl fun K' hK' => ?_ | refine al_t rfl rfl fun K' hK' => ?_); (repeat (simp only [go_sem, simprocAttr, hX])); (first | ((refine hK' _ _ ?_) <;> clear hK' K') | ((show AC _ _ (D.fn 20 _) _ _); refine acall_w [] (by decide) (by simp) (f := 20) (e := rfl) (hr := fun _ => rfl) (k := hK' _ _ ?_) (hc := Try.call20) (h := good00); clear hK' K') | ((show AC _ _ (D.fn 21 _) _ _); refine acall_p (f := 21) (e := rfl) (hr := rfl) (k := hK' _ _ ?_) (hc := Try.call21) (h := heqp); clear hK' K'))) | refine al_e rfl rfl ?_ | ((fail_if_success (refine al_t rfl rfl fun K' hK' => ?_)); refine al_s _ rfl rfl rfl (fun hb => ?_) (fun hb => ?_)))); all_goals (refine al_nil ?_; (simp only [go_sem, simprocAttr, hX]); refine hK _ ?_; clear hK K))
        all_goals (refine awp_ret ?_; (refine hR _ _ (.inl rfl) rfl ?_); (first | (simp only [go_sem, simprocAttr, hX, *, Bool.and_true, Bool.and_false, Bool.true_and, Bool.false_and, Bool.or_true, Bool.true_or, Bool.or_false, Bool.false_or, Bool.not_true, Bool.not_false, Bool.false_eq_true]; done) | (simp_all; done)))
end Go.Proofs.Ytagphggcdmjlpaa.P

/- A cell contains what was last set, and all other objects are unchanged: YoungSets' contract. -/
namespace Go.Proofs.Ytagphggcdmjlpaa.P
open Go.Ab Go.Proofs.Ytagphggcdmjlpaa.T

theorem wf_word {w : Int} (h : (Lit.int .u64 w).wf = true) : WordOk w := by
  simp [Lit.wf, IntKind.min, IntKind.max, IntKind.signed, IntKind.bits] at h
  exact ⟨by omega, by omega⟩

theorem at_err {h : List Int} {a : Int} (h0 : (atS h a).2 ≠ 0) : (atS h a).1.parts = [] := by
  have hO : ∀ (n m : Nat) (o : Obj), (atO h n o m).2 ≠ 0 → (atO h n o m).1.parts = [] := fun n m o h1 => by
    unfold atO at h1 ⊢
    split
    · rfl
    · rename_i hc; rw [if_neg hc] at h1; exact absurd rfl h1
  have hR : ∀ (n : Nat) (k : Int) (t p : Nat), (atR h n k t p).2 ≠ 0 → (atR h n k t p).1.parts = [] := fun n k t p h1 => by
    unfold atR at h1 ⊢
    split
    · rename_i hc; rw [if_pos hc] at h1; exact hO _ _ _ h1
    · rename_i hc; rw [if_neg hc] at h1; exact hO _ _ _ h1
  have hv : atS h a = if decide (a < 0) || decide (a ≥ h.length) then (z0, 4) else
    match h[a.toNat]? with
    | none => (z0, 0)
    | some w => if (w.fdiv (2 ^ min 32 64) != 0) || decide ((roomN (kN w) (tN w).toNat (pN w).toNat : Int) > h.length - a) then (z0, 3) else atR h a.toNat (kN w) (tN w).toNat (pN w).toNat := rfl
  by_cases h1 : (decide (a < 0) || decide (a ≥ h.length)) = true
  · rw [hv, if_pos h1]
  · rw [if_neg h1] at hv
    cases hg : h[a.toNat]? with
    | none => rw [hg] at hv; rw [hv]
    | some w =>
      rw [hg] at hv
      simp only at hv
      split at hv
      · rw [hv]
      · rw [hv] at h0 ⊢
        exact hR _ _ _ _ h0

theorem sets (h : List Int) (old a w other : Int) (late : List Int) (hlen : h.length ≤ maxLen) (hok : ∀ w, w ∈ h → (Lit.int .u64 w).wf = true) (hlate : late.length ≤ maxLen) (hw : (Lit.int .u64 w).wf = true) :
    ACallP Try.prog 9 [agesD h old late, iD a, wD w, iD other] (bD true) := by
  have hok : ∀ w, w ∈ h → WordOk w := fun w hw => wf_word (hok w hw)
  have hw := wf_word hw
  rcases setC h old a w late hlen hok hlate hw with ⟨e, he, hset⟩ | ⟨P, o, Q, p, hp, hf, h4, hg, hn, ha, hoa, hk, hop, hll, hset⟩
  · exact setsBad h old a w other e late (by simpa using he) hset
  obtain ⟨hp2, hf2⟩ := placed_set (w := w) hp hk hop hw hoa
  have hlen2 : (flat (P ++ { o with parts := [w] } :: Q)).length = h.length := by rw [hf2, List.length_set, hf]
  have ho : o ∈ P ++ o :: Q := by simp
  have ho2 : ({ o with parts := [w] } : Obj) ∈ P ++ { o with parts := [w] } :: Q := by simp
  have hok2 := placed_ok hp2
  have hm2 : (flat (P ++ { o with parts := [w] } :: Q)).length ≤ maxLen := by rw [hlen2]; exact hlen
  have hat2 := at_ _ a hm2 hok2
  have e1 : atS (flat (P ++ { o with parts := [w] } :: Q)) a = ({ o with parts := [w] }, 0) := by rw [ha]; exact at_placed hp2 ho2
  rw [e1] at hat2
  have hpp := at_ h other hlen hok
  have hqq := at_ _ other hm2 hok2
  have hobs := objects h hlen hok
  have hob : objsS h = (P ++ o :: Q, 0) := by rw [hf]; exact placed_objs hp (by rw [← hf]; exact h4)
  rw [hob] at hobs
  have hcl := count_len (L := P ++ o :: Q)
  rw [← hf] at hcl
  have hbe := beginsR (P ++ o :: Q) (by simp only [maxLen]; omega) other
  have hst := (setL_facts (old := old) (n := o.at_) (p := placeS w) hg.2.2.2.1).2.2.2.2
  have hnl : (setL old late a (placeS w)).length ≤ maxLen := by rw [ha]; simp only [maxLen]; omega
  have hck := checkC _ old (setL old late a (placeS w)) hm2 hok2 hnl
  have hg2 := good_set (w := w) hg hop (begS_iff.2 (.inr ⟨o, ho, rfl⟩)) ⟨hn.1, fun hi => by
    obtain ⟨x, hx, hxa⟩ := hn.2 hi
    obtain ⟨n, en, hnl⟩ := placed_len hp hx
    have : 1 ≤ (encW x).length := by simp [encW]
    rw [← hf] at hnl
    exact ⟨by rw [← hxa]; omega, begS_iff.2 (.inr ⟨x, hx, hxa⟩)⟩⟩
  rw [checkY_flat hp2 (by rw [hlen2]; exact h4) (by rw [hlen2, ha]; exact hg2)] at hck
  have hpl : (atS h other).1.parts.length ≤ maxLen := by
    by_cases h0 : (atS h other).2 = 0
    · obtain ⟨n, _, _, _, hr, _⟩ := at_ok h0 hlen hok
      have := (right_small hr).2
      simp only [maxLen]; omega
    · have : (atS h other).1.parts = [] := at_err h0
      rw [this]; simp [maxLen]
  have hsame : ((other == a) || !((P ++ o :: Q).any fun o => o.at_ == other)) = false → (atS h other).2 = 0 ∧ (atS (flat (P ++ { o with parts := [w] } :: Q)) other).2 = 0 ∧ (atS (flat (P ++ { o with parts := [w] } :: Q)) other).1.kind = (atS h other).1.kind ∧
      (atS (flat (P ++ { o with parts := [w] } :: Q)) other).1.text = (atS h other).1.text ∧ (atS (flat (P ++ { o with parts := [w] } :: Q)) other).1.num = (atS h other).1.num ∧ (atS (flat (P ++ { o with parts := [w] } :: Q)) other).1.parts = (atS h other).1.parts := by
    intro hc
    rw [Bool.or_eq_false_iff] at hc
    obtain ⟨c1, c2⟩ := hc
    have c1 : other ≠ a := by simpa using c1
    have c2 : ((P ++ o :: Q).any fun o => o.at_ == other) = true := by
      cases hb : ((P ++ o :: Q).any fun o => o.at_ == other) with
      | true => rfl
      | false => rw [hb] at c2; cases c2
    obtain ⟨x, hx, hxa⟩ := List.any_eq_true.1 c2
    have hxa : x.at_ = other := by simpa using hxa
    have hx2 : x ∈ P ++ { o with parts := [w] } :: Q := by
      rcases List.mem_append.1 hx with hx | hx
      · exact List.mem_append_left _ hx
      · rcases List.mem_cons.1 hx with rfl | hx
        · exact absurd (hxa.symm.trans ha.symm) c1
        · exact List.mem_append_right _ (List.mem_cons_of_mem _ hx)
    have q1 := at_placed hp hx
    have q2 := at_placed hp2 hx2
    rw [hxa] at q1 q2
    rw [← hf] at q1
    rw [q1, q2]
    exact ⟨rfl, rfl, rfl, rfl, rfl, rfl⟩
  clear hp2 hf2 hcl
  generalize (P ++ o :: Q).any (fun o => o.at_ == other) = B at hbe hsame
  generalize atS (flat (P ++ { o with parts := [w] } :: Q)) other = q at hqq hsame
  generalize atS h other = p2 at hpp hsame hpl
  rw [show objD ({ o with parts := [w] } : Obj) = .agg [iD o.at_, iD 5, iD o.num, .p (.lit (.string o.text)), words [w]] by rw [← hk]] at hat2
  exact setsGood h _ old a w other 0 p2.2 q.2 late _ _ B o.at_ o.num p2.1.at_ p2.1.kind p2.1.num q.1.at_ q.1.kind q.1.num o.text p2.1.text q.1.text p2.1.parts q.1.parts hset hat2 hpp hqq hck hobs hbe hsame hpl
end Go.Proofs.Ytagphggcdmjlpaa.P

/- What data of the types of this seat's statements looks like, by a program of this session (genshape.py). -/
namespace Go.Proofs.Ytagphggcdmjlpaa.P2
open Go.Ab
theorem closed : closedT Try.prog [3, 23, 34, 58, 64] = true := by kernel_rfl
theorem c3 : Try.prog.cellsOf 3 = 1 := by kernel_rfl
theorem c23 : Try.prog.cellsOf 23 = 1 := by kernel_rfl
theorem c34 : Try.prog.cellsOf 34 = 1 := by kernel_rfl
theorem c58 : Try.prog.cellsOf 58 = 1 := by kernel_rfl
theorem c64 : Try.prog.cellsOf 64 = 3 := by kernel_rfl
theorem sh_bool {P : Program} {f : Nat} {t : TypeId} {xs : List PV} (hu : P.underlying t = some .bool) (h : shapeOk P f t xs) : ∃ b, xs = [.lit (.bool b)] ∧ True := by
  obtain ⟨b, rfl⟩ := shape_bool hu h; exact ⟨b, rfl, trivial⟩
theorem rows34 {f : Nat} : ∀ (rows : List (List PV)), (∀ r, r ∈ rows → r.length = Try.prog.cellsOf 34 ∧ shapeOk Try.prog f 34 r) → ∃ ls : List Int, rows = ls.map (fun x => [.lit (.int .u64 x)]) ∧ ∀ x, x ∈ ls → (Lit.int .u64 x).wf = true
  | [], _ => ⟨[], rfl, fun x hx => by cases hx⟩
  | r :: rows, h => by
    obtain ⟨x, rfl, hx⟩ := shape_int Try.underlying34 (h r List.mem_cons_self).2
    obtain ⟨ls, rfl, hl⟩ := rows34 rows fun r hr => h r (List.mem_cons_of_mem _ hr)
    exact ⟨x :: ls, rfl, fun y hy => by rcases List.mem_cons.1 hy with rfl | hy; exact hx; exact hl y hy⟩

theorem sh23 {f : Nat} {xs : List PV} (h : shapeOk Try.prog f 23 xs) : ∃ x : (List Int), xs = [.sl (x.map fun x => [.lit (.int .u64 x)])] ∧ (x.length ≤ maxLen ∧ (∀ y, y ∈ x → (Lit.int .u64 y).wf = true) ∧ x.length * 8 ≤ 140737488351232) := by
  obtain ⟨n, rows, _, rfl, hmax, hfit, hr⟩ := shape_slice Try.underlying23 h
  obtain ⟨ls, rfl, hl⟩ := rows34 rows hr
  exact ⟨ls, rfl, by simpa using hmax, hl, by rw [show Try.prog.bytesOf 34 = 8 by kernel_rfl, reach_is] at hfit; simpa using hfit⟩

theorem rows3 {f : Nat} : ∀ (rows : List (List PV)), (∀ r, r ∈ rows → r.length = Try.prog.cellsOf 3 ∧ shapeOk Try.prog f 3 r) → ∃ ls : List Int, rows = ls.map (fun x => [.lit (.int .i64 x)]) ∧ ∀ x, x ∈ ls → (Lit.int .i64 x).wf = true
  | [], _ => ⟨[], rfl, fun x hx => by cases hx⟩
  | r :: rows, h => by
    obtain ⟨x, rfl, hx⟩ := shape_int Try.underlying3 (h r List.mem_cons_self).2
    obtain ⟨ls, rfl, hl⟩ := rows3 rows fun r hr => h r (List.mem_cons_of_mem _ hr)
    exact ⟨x :: ls, rfl, fun y hy => by rcases List.mem_cons.1 hy with rfl | hy; exact hx; exact hl y hy⟩

theorem sh58 {f : Nat} {xs : List PV} (h : shapeOk Try.prog f 58 xs) : ∃ x : (List Int), xs = [.sl (x.map fun x => [.lit (.int .i64 x)])] ∧ (x.length ≤ maxLen ∧ (∀ y, y ∈ x → (Lit.int .i64 y).wf = true) ∧ x.length * 8 ≤ 140737488351232) := by
  obtain ⟨n, rows, _, rfl, hmax, hfit, hr⟩ := shape_slice Try.underlying58 h
  obtain ⟨ls, rfl, hl⟩ := rows3 rows hr
  exact ⟨ls, rfl, by simpa using hmax, hl, by rw [show Try.prog.bytesOf 3 = 8 by kernel_rfl, reach_is] at hfit; simpa using hfit⟩

structure Ages where
  heap : List Int
  old : Int
  late : List Int

def Ages.row (b : Ages) : List PV := [.sl (b.heap.map fun x => [.lit (.int .u64 x)]), .lit (.int .i64 b.old), .sl (b.late.map fun x => [.lit (.int .i64 x)])]
def Ages.ok (b : Ages) : Prop := (b.heap.length ≤ maxLen ∧ (∀ y, y ∈ b.heap → (Lit.int .u64 y).wf = true) ∧ b.heap.length * 8 ≤ 140737488351232) ∧ (Lit.int .i64 b.old).wf = true ∧ (b.late.length ≤ maxLen ∧ (∀ y, y ∈ b.late → (Lit.int .i64 y).wf = true) ∧ b.late.length * 8 ≤ 140737488351232)
theorem Ages.row_length (b : Ages) : b.row.length = 3 := rfl
set_option maxRecDepth 100000 in
theorem sh64 {f : Nat} {xs : List PV} (h : shapeOk Try.prog f 64 xs) : ∃ x : Ages, xs = x.row ∧ x.ok := by
  obtain ⟨m, rfl, hl, hf⟩ := shape_struct Try.underlying64 h
  rw [c64] at hl
  match xs, hl with
  | [q0, q1, q2], _ =>
    have h0 := hf _ List.mem_cons_self
    have h1 := hf _ (List.mem_cons_of_mem _ List.mem_cons_self)
    have h2 := hf _ (List.mem_cons_of_mem _ (List.mem_cons_of_mem _ List.mem_cons_self))
    simp only [c3, c23, c58, List.drop_zero, List.drop_succ_cons, List.take_succ_cons, List.take_zero] at h0 h1 h2
    obtain ⟨x0, e0, k0⟩ := sh23 h0
    obtain ⟨x1, e1, k1⟩ := shape_int Try.underlying3 h1
    obtain ⟨x2, e2, k2⟩ := sh58 h2
    simp only [List.cons.injEq, and_true] at e0 e1 e2
    exact ⟨⟨x0, x1, x2⟩, by rw [e0, e1, e2]; rfl, k0, k1, k2⟩
end Go.Proofs.Ytagphggcdmjlpaa.P2

