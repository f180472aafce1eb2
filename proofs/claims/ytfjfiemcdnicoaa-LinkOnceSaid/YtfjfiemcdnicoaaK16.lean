/- LinkOnce: the walk. -/
import Derived.Test.YtfjfiemcdnicoaaKL
import Derived.Test.YtfjfiemcdnicoaaK15
import Derived.Test.YtfjfiemcdnicoaaK6
set_option linter.unusedSimpArgs false
set_option linter.unusedVariables false
set_option maxHeartbeats 1000000
namespace Go.Proofs.Ytfjfiemcdnicoaa.P
open Go.Ab Go.Proofs.Ytfjfiemcdnicoaa.T
open Go.Proofs.Ytfjfiemcdnicoaa.PL (Letter)


theorem linkOnce (ls : List Row) (ref b : Int) (hlen : ls.length ≤ maxLen) : ACallP Try.prog 5 [rows ls, iD ref, iD b] (bD true) := by
  have h100 : ∀ {l : List Row}, GoodK l → l.length ≤ maxLen := fun h => Nat.le_trans h.len (by simp [maxLen])
  have hl1 := link ls ref b hlen
  have hlg := link_good (ls := ls) (ref := ref) (to := b)
  have hle := link_err (ls := ls) (ref := ref) (to := b)
  have hl2 : (linkS ls ref b).1.length ≤ maxLen ∧ ACallP Try.prog 18 [rows (linkS ls ref b).1, iD ref, iD b] (.tup [rows (linkS (linkS ls ref b).1 ref b).1, iD (linkS (linkS ls ref b).1 ref b).2]) := by
    have : (linkS ls ref b).1.length ≤ maxLen := by
      by_cases h : (linkS ls ref b).2 = 0
      · exact h100 (hlg h).1
      · rw [hle h]; simp
    exact ⟨this, link _ ref b this⟩
  obtain ⟨hal, hl2⟩ := hl2
  have hw1 := watch ls b ref hlen
  have hwl : (watchS ls b ref).1.length ≤ maxLen := by
    by_cases h : (watchS ls b ref).2 = 0
    · exact h100 (watch_good h)
    · unfold watchS at h ⊢
      split at h
      · simp [*]
      · split at h
        · split at h
          · simp [*]
          · exact absurd rfl h
        · exact absurd rfl h
  have hw2 := watch (watchS ls b ref).1 b ref hwl
  have htw := watch_twice (ls := ls) (b := b) (ref := ref)
  have hg1 := gone ls ref false ⟨#[]⟩ hlen
  have hg2 : (watchS (watchS ls b ref).1 b ref).2 = 0 → _ := fun h => gone (watchS (watchS ls b ref).1 b ref).1 ref false ⟨#[]⟩ (h100 (watch_good h))
  generalize goneS (watchS (watchS ls b ref).1 b ref).1 ref false ⟨#[]⟩ = g2 at htw hg2
  generalize goneS ls ref false ⟨#[]⟩ = g1 at htw hg1
  generalize watchS (watchS ls b ref).1 b ref = dh at hw2 htw hg2
  generalize watchS ls b ref = cg at hw1 hw2 htw
  generalize linkS (linkS ls ref b).1 ref b = bf at hl2 hlg
  generalize linkS ls ref b = ae at hl1 hl2 hlg hle hal
  obtain ⟨A, e⟩ := ae
  obtain ⟨B, f⟩ := bf
  obtain ⟨C, g⟩ := cg
  obtain ⟨Dd, h⟩ := dh
  obtain ⟨G1, X, i⟩ := g1
  obtain ⟨G2, Y, j⟩ := g2
  simp only at *
  have hgd1 := good [g, h] (by simp [maxLen])
  obtain ⟨V, hV⟩ : ∃ V, V = !([g, h].any fun e => e != 0) := ⟨_, rfl⟩
  rw [← hV] at hgd1
  refine acallp_fn [6] Try.func5 rfl rfl Try.ntmps5 (by simp) fun R hR => ?_
  (refine awp_reg_seq [0, 1, 2] fun K hK => ?_; (repeat' (first | ((first | refine al_r rfl fun K' hK' => ?_ | refine al_d rfl fun K' hK' => ?_ | refine al_t rfl rfl fun K' hK' => ?_); (repeat (first | (simp only [go_sem, simprocAttr, List.length_map]) | refine AS.mk ?_ | refine AAp.grow ?_)); (first | ((first | refine hK' _ _ ?_ | refine ⟨?_, hK' _ _ ?_⟩ | refine ⟨?_, ?_, hK' _ _ ?_⟩ | refine ⟨?_, ?_, ?_, hK' _ _ ?_⟩) <;> clear hK' K' <;> (first | (show alist _ _ _ _ _ _; skip) | (intro s hs; cases hs; done) | assumption | (simp; done) | omega | (simp; omega) | skip)))) | refine al_e rfl rfl ?_ | refine al_u rfl rfl ?_ | ((fail_if_success (refine al_t rfl rfl fun K' hK' => ?_)); refine al_s _ rfl rfl rfl (fun hb => ?_) (fun hb => ?_)))); all_goals (refine al_nil ?_; (simp only [go_sem, simprocAttr, List.length_map]); refine hK _ ?_; clear hK K))
  (refine awp_reg_seq [0, 1, 2, 7, 8] fun K hK => ?_; (repeat' (first | ((first | refine al_r rfl fun K' hK' => ?_ | refine al_d rfl fun K' hK' => ?_ | refine al_t rfl rfl fun K' hK' => ?_); (repeat (first | (simp only [go_sem, simprocAttr, List.length_map]) | refine AS.mk ?_ | refine AAp.grow ?_)); (first | ((first | refine hK' _ _ ?_ | refine ⟨?_, hK' _ _ ?_⟩ | refine ⟨?_, ?_, hK' _ _ ?_⟩ | refine ⟨?_, ?_, ?_, hK' _ _ ?_⟩) <;> clear hK' K' <;> (first | (show alist _ _ _ _ _ _; skip) | (intro s hs; cases hs; done) | assumption | (simp; done) | omega | (simp; omega) | skip)) | ((show AC _ _ (D.fn 18 _) _ _); refine acall_p (f := 18) (e := rfl) (hr := rfl) (k := hK' _ _ ?_) (hc := Try.call18) (h := hl1); clear hK' K') | ((show AC _ _ (D.fn 18 _) _ _); refine acall_p (f := 18) (e := rfl) (hr := rfl) (k := hK' _ _ ?_) (hc := Try.call18) (h := hl2); clear hK' K'))) | refine al_e rfl rfl ?_ | refine al_u rfl rfl ?_ | ((fail_if_success (refine al_t rfl rfl fun K' hK' => ?_)); refine al_s _ rfl rfl rfl (fun hb => ?_) (fun hb => ?_)))); all_goals (refine al_nil ?_; (simp only [go_sem, simprocAttr, List.length_map]); refine hK _ ?_; clear hK K))
  (refine awp_reg_seq [0, 1, 2, 7, 8, 9, 10] fun K hK => ?_; (repeat' (first | ((first | refine al_r rfl fun K' hK' => ?_ | refine al_d rfl fun K' hK' => ?_ | refine al_t rfl rfl fun K' hK' => ?_); (repeat (first | (simp only [go_sem, simprocAttr, List.length_map]) | refine AS.mk ?_ | refine AAp.grow ?_)); (first | ((first | refine hK' _ _ ?_ | refine ⟨?_, hK' _ _ ?_⟩ | refine ⟨?_, ?_, hK' _ _ ?_⟩ | refine ⟨?_, ?_, ?_, hK' _ _ ?_⟩) <;> clear hK' K' <;> (first | (show alist _ _ _ _ _ _; skip) | (intro s hs; cases hs; done) | assumption | (simp; done) | omega | (simp; omega) | skip)) | ((show AC _ _ (D.fn 18 _) _ _); refine acall_p (f := 18) (e := rfl) (hr := rfl) (k := hK' _ _ ?_) (hc := Try.call18) (h := hl1); clear hK' K') | ((show AC _ _ (D.fn 18 _) _ _); refine acall_p (f := 18) (e := rfl) (hr := rfl) (k := hK' _ _ ?_) (hc := Try.call18) (h := hl2); clear hK' K'))) | refine al_e rfl rfl ?_ | refine al_u rfl rfl ?_ | ((fail_if_success (refine al_t rfl rfl fun K' hK' => ?_)); refine al_s _ rfl rfl rfl (fun hb => ?_) (fun hb => ?_)))); all_goals (refine al_nil ?_; (simp only [go_sem, simprocAttr, List.length_map]); refine hK _ ?_; clear hK K))
  refine awp_seq_k fun K hK => ?_
  (refine awp_reg_seq [0, 1, 2, 7, 9, 10, 40] fun K hK => ?_; (repeat' (first | ((first | refine al_r rfl fun K' hK' => ?_ | refine al_d rfl fun K' hK' => ?_ | refine al_t rfl rfl fun K' hK' => ?_); (repeat (first | (simp only [go_sem, simprocAttr, List.length_map]) | refine AS.mk ?_ | refine AAp.grow ?_)); (first | ((first | refine hK' _ _ ?_ | refine ⟨?_, hK' _ _ ?_⟩ | refine ⟨?_, ?_, hK' _ _ ?_⟩ | refine ⟨?_, ?_, ?_, hK' _ _ ?_⟩) <;> clear hK' K' <;> (first | (show alist _ _ _ _ _ _; skip) | (intro s hs; cases hs; done) | assumption | (simp; done) | omega | (simp; omega) | skip)) | ((show AC _ _ (D.fn 12 _) _ _); refine acall_p (f := 12) (e := rfl) (hr := rfl) (k := hK' _ _ ?_) (hc := Try.call12) (h := links); clear hK' K'))) | refine al_e rfl rfl ?_ | refine al_u rfl rfl ?_ | ((fail_if_success (refine al_t rfl rfl fun K' hK' => ?_)); refine al_s _ rfl rfl rfl (fun hb => ?_) (fun hb => ?_)))); all_goals (refine al_nil ?_; (simp only [go_sem, simprocAttr, List.length_map]); refine hK _ ?_; clear hK K))
  refine awp_if (_) rfl (fun hc => ?_) (fun hc => ?_)
  · have hA0 := hle (by simpa using hc)
    subst hA0
    (refine awp_reg_seq [6] fun K hK => ?_; (repeat' (first | ((first | refine al_r rfl fun K' hK' => ?_ | refine al_d rfl fun K' hK' => ?_ | refine al_t rfl rfl fun K' hK' => ?_); (repeat (first | (simp only [go_sem, simprocAttr, List.length_map]) | refine AS.mk ?_ | refine AAp.grow ?_)); (first | ((first | refine hK' _ _ ?_ | refine ⟨?_, hK' _ _ ?_⟩ | refine ⟨?_, ?_, hK' _ _ ?_⟩ | refine ⟨?_, ?_, ?_, hK' _ _ ?_⟩) <;> clear hK' K' <;> (first | (show alist _ _ _ _ _ _; skip) | (intro s hs; cases hs; done) | assumption | (simp; done) | omega | (simp; omega) | skip)) | ((show AC _ _ (D.fn 12 _) _ _); refine acall_p (f := 12) (e := rfl) (hr := rfl) (k := hK' _ _ ?_) (hc := Try.call12) (h := links); clear hK' K'))) | refine al_e rfl rfl ?_ | refine al_u rfl rfl ?_ | ((fail_if_success (refine al_t rfl rfl fun K' hK' => ?_)); refine al_s _ rfl rfl rfl (fun hb => ?_) (fun hb => ?_)))); all_goals (refine al_nil ?_; (simp only [go_sem, simprocAttr, List.length_map]); refine hK _ ?_; clear hK K))
    all_goals (refine awp_ret ?_; (first | refine hR _ _ (.inl rfl) rfl ?_ | refine hR _ _ (.inl rfl) rfl ?_ ?_); (first | (simp only [go_sem, simprocAttr, List.length_map, *, Bool.and_true, Bool.and_false, Bool.true_and, Bool.false_and, Bool.or_true, Bool.true_or, Bool.or_false, Bool.false_or, Bool.not_true, Bool.not_false, Bool.false_eq_true]; done) | contradiction | (simp_all; done) | simp only [go_sem, simprocAttr, List.length_map, *, Bool.and_true, Bool.and_false, Bool.true_and, Bool.false_and, Bool.or_true, Bool.true_or, Bool.or_false, Bool.false_or, Bool.not_true, Bool.not_false, Bool.false_eq_true]))
  · have he : e = 0 := by simpa using hc
    obtain ⟨hga, hBA⟩ := hlg he
    have hB : B = A := congrArg Prod.fst hBA
    have hf : f = 0 := congrArg Prod.snd hBA
    subst hB hf
    have hss := sameSelf B hal (fun z hz => ⟨Nat.le_trans (hga.rows z hz).w (by simp [maxLen]), Nat.le_trans (hga.rows z hz).l (by simp [maxLen])⟩)
    refine awp_skip ?_
    refine hK _ ?_; clear hK K
    refine awp_seq_k fun K hK => ?_
    (refine awp_reg_seq [0, 1, 2, 54] fun K hK => ?_; (repeat' (first | ((first | refine al_r rfl fun K' hK' => ?_ | refine al_d rfl fun K' hK' => ?_ | refine al_t rfl rfl fun K' hK' => ?_); (repeat (first | (simp only [go_sem, simprocAttr, List.length_map]) | refine AS.mk ?_ | refine AAp.grow ?_)); (first | ((first | refine hK' _ _ ?_ | refine ⟨?_, hK' _ _ ?_⟩ | refine ⟨?_, ?_, hK' _ _ ?_⟩ | refine ⟨?_, ?_, ?_, hK' _ _ ?_⟩) <;> clear hK' K' <;> (first | (show alist _ _ _ _ _ _; skip) | (intro s hs; cases hs; done) | assumption | (simp; done) | omega | (simp; omega) | skip)) | ((show AC _ _ (D.fn 19 _) _ _); refine acall_p (f := 19) (e := rfl) (hr := rfl) (k := hK' _ _ ?_) (hc := Try.call19) (h := hss); clear hK' K'))) | refine al_e rfl rfl ?_ | refine al_u rfl rfl ?_ | ((fail_if_success (refine al_t rfl rfl fun K' hK' => ?_)); refine al_s _ rfl rfl rfl (fun hb => ?_) (fun hb => ?_)))); all_goals (refine al_nil ?_; (simp only [go_sem, simprocAttr, List.length_map]); refine hK _ ?_; clear hK K))
    refine awp_if (_) rfl (fun hc => ?_) (fun hc => ?_)
    · cases hc
    · refine awp_skip ?_
      refine hK _ ?_; clear hK K
      (refine awp_reg_seq [0, 1, 2, 11, 12] fun K hK => ?_; (repeat' (first | ((first | refine al_r rfl fun K' hK' => ?_ | refine al_d rfl fun K' hK' => ?_ | refine al_t rfl rfl fun K' hK' => ?_); (repeat (first | (simp only [go_sem, simprocAttr, List.length_map]) | refine AS.mk ?_ | refine AAp.grow ?_)); (first | ((first | refine hK' _ _ ?_ | refine ⟨?_, hK' _ _ ?_⟩ | refine ⟨?_, ?_, hK' _ _ ?_⟩ | refine ⟨?_, ?_, ?_, hK' _ _ ?_⟩) <;> clear hK' K' <;> (first | (show alist _ _ _ _ _ _; skip) | (intro s hs; cases hs; done) | assumption | (simp; done) | omega | (simp; omega) | skip)) | ((show AC _ _ (D.fn 20 _) _ _); refine acall_p (f := 20) (e := rfl) (hr := rfl) (k := hK' _ _ ?_) (hc := Try.call20) (h := hw1); clear hK' K') | ((show AC _ _ (D.fn 20 _) _ _); refine acall_p (f := 20) (e := rfl) (hr := rfl) (k := hK' _ _ ?_) (hc := Try.call20) (h := hw2); clear hK' K'))) | refine al_e rfl rfl ?_ | refine al_u rfl rfl ?_ | ((fail_if_success (refine al_t rfl rfl fun K' hK' => ?_)); refine al_s _ rfl rfl rfl (fun hb => ?_) (fun hb => ?_)))); all_goals (refine al_nil ?_; (simp only [go_sem, simprocAttr, List.length_map]); refine hK _ ?_; clear hK K))
      (refine awp_reg_seq [0, 1, 2, 12, 13, 14] fun K hK => ?_; (repeat' (first | ((first | refine al_r rfl fun K' hK' => ?_ | refine al_d rfl fun K' hK' => ?_ | refine al_t rfl rfl fun K' hK' => ?_); (repeat (first | (simp only [go_sem, simprocAttr, List.length_map]) | refine AS.mk ?_ | refine AAp.grow ?_)); (first | ((first | refine hK' _ _ ?_ | refine ⟨?_, hK' _ _ ?_⟩ | refine ⟨?_, ?_, hK' _ _ ?_⟩ | refine ⟨?_, ?_, ?_, hK' _ _ ?_⟩) <;> clear hK' K' <;> (first | (show alist _ _ _ _ _ _; skip) | (intro s hs; cases hs; done) | assumption | (simp; done) | omega | (simp; omega) | skip)) | ((show AC _ _ (D.fn 20 _) _ _); refine acall_p (f := 20) (e := rfl) (hr := rfl) (k := hK' _ _ ?_) (hc := Try.call20) (h := hw1); clear hK' K') | ((show AC _ _ (D.fn 20 _) _ _); refine acall_p (f := 20) (e := rfl) (hr := rfl) (k := hK' _ _ ?_) (hc := Try.call20) (h := hw2); clear hK' K'))) | refine al_e rfl rfl ?_ | refine al_u rfl rfl ?_ | ((fail_if_success (refine al_t rfl rfl fun K' hK' => ?_)); refine al_s _ rfl rfl rfl (fun hb => ?_) (fun hb => ?_)))); all_goals (refine al_nil ?_; (simp only [go_sem, simprocAttr, List.length_map]); refine hK _ ?_; clear hK K))
      refine awp_seq_k fun K hK => ?_
      (refine awp_reg_seq [0, 1, 2, 13, 73] fun K hK => ?_; (repeat' (first | ((first | refine al_r rfl fun K' hK' => ?_ | refine al_d rfl fun K' hK' => ?_ | refine al_t rfl rfl fun K' hK' => ?_); (repeat (first | (simp only [go_sem, simprocAttr, List.length_map]) | refine AS.mk ?_ | refine AAp.grow ?_)); (first | ((first | refine hK' _ _ ?_ | refine ⟨?_, hK' _ _ ?_⟩ | refine ⟨?_, ?_, hK' _ _ ?_⟩ | refine ⟨?_, ?_, ?_, hK' _ _ ?_⟩) <;> clear hK' K' <;> (first | (show alist _ _ _ _ _ _; skip) | (intro s hs; cases hs; done) | assumption | (simp; done) | omega | (simp; omega) | skip)) | ((show AC _ _ (D.fn 21 _) _ _); refine acall_g (f := 21) (e := rfl) (hr := rfl) (hf := by simp [D.all, D.allL, flatL, flatPV]) (k := hK' _ _ ?_) (hc := Try.call21) (h := hgd1); clear hK' K') | ((show AC _ _ (D.fn 21 _) _ _); refine acall_g (f := 21) (e := rfl) (hr := rfl) (hf := by simp [D.all, D.allL, flatL, flatPV]) (k := hK' _ _ ?_) (hc := Try.call21) (h := hgd2); clear hK' K'))) | refine al_e rfl rfl ?_ | refine al_u rfl rfl ?_ | ((fail_if_success (refine al_t rfl rfl fun K' hK' => ?_)); refine al_s _ rfl rfl rfl (fun hb => ?_) (fun hb => ?_)))); all_goals (refine al_nil ?_; (simp only [go_sem, simprocAttr, List.length_map]); refine hK _ ?_; clear hK K))
      refine awp_if (!V) rfl (fun hc => ?_) (fun hc => ?_)
      · (refine awp_reg_seq [6] fun K hK => ?_; (repeat' (first | ((first | refine al_r rfl fun K' hK' => ?_ | refine al_d rfl fun K' hK' => ?_ | refine al_t rfl rfl fun K' hK' => ?_); (repeat (first | (simp only [go_sem, simprocAttr, List.length_map]) | refine AS.mk ?_ | refine AAp.grow ?_)); (first | ((first | refine hK' _ _ ?_ | refine ⟨?_, hK' _ _ ?_⟩ | refine ⟨?_, ?_, hK' _ _ ?_⟩ | refine ⟨?_, ?_, ?_, hK' _ _ ?_⟩) <;> clear hK' K' <;> (first | (show alist _ _ _ _ _ _; skip) | (intro s hs; cases hs; done) | assumption | (simp; done) | omega | (simp; omega) | skip)))) | refine al_e rfl rfl ?_ | refine al_u rfl rfl ?_ | ((fail_if_success (refine al_t rfl rfl fun K' hK' => ?_)); refine al_s _ rfl rfl rfl (fun hb => ?_) (fun hb => ?_)))); all_goals (refine al_nil ?_; (simp only [go_sem, simprocAttr, List.length_map]); refine hK _ ?_; clear hK K))
        all_goals (refine awp_ret ?_; (first | refine hR _ _ (.inl rfl) rfl ?_ | refine hR _ _ (.inl rfl) rfl ?_ ?_); (first | (simp only [go_sem, simprocAttr, List.length_map, *, Bool.and_true, Bool.and_false, Bool.true_and, Bool.false_and, Bool.or_true, Bool.true_or, Bool.or_false, Bool.false_or, Bool.not_true, Bool.not_false, Bool.false_eq_true]; done) | contradiction | (simp_all; done) | simp only [go_sem, simprocAttr, List.length_map, *, Bool.and_true, Bool.and_false, Bool.true_and, Bool.false_and, Bool.or_true, Bool.true_or, Bool.or_false, Bool.false_or, Bool.not_true, Bool.not_false, Bool.false_eq_true]))
      · have hVt : V = true := by simpa using hc
        rw [hVt] at hV
        have hgh : g = 0 ∧ h = 0 := by simpa using hV
        obtain ⟨w, hwl2, hX, hY⟩ := htw hgh.1 hgh.2
        have hg2 := hg2 hgh.2
        have hX1 := congrArg Prod.fst hX
        have hX2 := congrArg Prod.snd hX
        have hY1 := congrArg Prod.fst hY
        have hY2 := congrArg Prod.snd hY
        simp only at hX1 hX2 hY1 hY2
        have hgd2 := good [i, j] (by simp [maxLen])
        rw [show (!([i, j].any fun e => e != 0)) = true by rw [hX2, hY2]; rfl] at hgd2
        have hXl : X.length = w.length := by rw [hX1]; simp
        have hYl : Y.length = w.length + 2 := by rw [hY1]; simp
        have hYa : Y[w.length + 1]? = some (downL ref 0 ⟨#[]⟩ b) := by rw [hY1]; simp
        have hYb : Y[w.length]? = some (downL ref 0 ⟨#[]⟩ b) := by rw [hY1]; simp
        clear hX hY hX1 hY1 hX2 hY2
        have hq1 : IntKind.i64.wrap ((Y.length : Int) - 1) = ((w.length + 1 : Nat) : Int) := by rw [hYl, Go.Ab.wrap_small (by omega) (by omega)]; omega
        have hq2 : IntKind.i64.wrap ((Y.length : Int) - 2) = (w.length : Int) := by rw [hYl, Go.Ab.wrap_small (by omega) (by omega)]; omega
        have hq3 : IntKind.i64.wrap ((X.length : Int) + 2) = (Y.length : Int) := by rw [hYl, hXl, Go.Ab.wrap_small (by omega) (by omega)]; omega
        have hn1 : (0 : Int) ≤ ((w.length + 1 : Nat) : Int) := Int.natCast_nonneg _
        have hn2 : (0 : Int) ≤ (w.length : Int) := Int.natCast_nonneg _
        have hb1 : ((w.length + 1 : Nat) : Int) < (Y.length : Int) := by omega
        have hb2 : (w.length : Int) < (Y.length : Int) := by omega
        refine awp_skip ?_
        refine hK _ ?_; clear hK K
        (refine awp_reg_seq [1, 2, 13, 16, 17] fun K hK => ?_; (repeat' (first | ((first | refine al_r rfl fun K' hK' => ?_ | refine al_d rfl fun K' hK' => ?_ | refine al_t rfl rfl fun K' hK' => ?_); (repeat (first | (simp only [go_sem, simprocAttr, List.length_map]) | refine AS.mk ?_ | refine AAp.grow ?_)); (first | ((first | refine hK' _ _ ?_ | refine ⟨?_, hK' _ _ ?_⟩ | refine ⟨?_, ?_, hK' _ _ ?_⟩ | refine ⟨?_, ?_, ?_, hK' _ _ ?_⟩) <;> clear hK' K' <;> (first | (show alist _ _ _ _ _ _; skip) | (intro s hs; cases hs; done) | assumption | (simp; done) | omega | (simp; omega) | skip)) | ((show AC _ _ (D.fn 13 _) _ _); refine acall_p (f := 13) (e := rfl) (hr := rfl) (k := hK' _ _ ?_) (hc := Try.call13) (h := hg1); clear hK' K') | ((show AC _ _ (D.fn 13 _) _ _); refine acall_p (f := 13) (e := rfl) (hr := rfl) (k := hK' _ _ ?_) (hc := Try.call13) (h := hg2); clear hK' K'))) | refine al_e rfl rfl ?_ | refine al_u rfl rfl ?_ | ((fail_if_success (refine al_t rfl rfl fun K' hK' => ?_)); refine al_s _ rfl rfl rfl (fun hb => ?_) (fun hb => ?_)))); all_goals (refine al_nil ?_; (simp only [go_sem, simprocAttr, List.length_map]); refine hK _ ?_; clear hK K))
        (refine awp_reg_seq [2, 16, 17, 19, 20] fun K hK => ?_; (repeat' (first | ((first | refine al_r rfl fun K' hK' => ?_ | refine al_d rfl fun K' hK' => ?_ | refine al_t rfl rfl fun K' hK' => ?_); (repeat (first | (simp only [go_sem, simprocAttr, List.length_map]) | refine AS.mk ?_ | refine AAp.grow ?_)); (first | ((first | refine hK' _ _ ?_ | refine ⟨?_, hK' _ _ ?_⟩ | refine ⟨?_, ?_, hK' _ _ ?_⟩ | refine ⟨?_, ?_, ?_, hK' _ _ ?_⟩) <;> clear hK' K' <;> (first | (show alist _ _ _ _ _ _; skip) | (intro s hs; cases hs; done) | assumption | (simp; done) | omega | (simp; omega) | skip)) | ((show AC _ _ (D.fn 13 _) _ _); refine acall_p (f := 13) (e := rfl) (hr := rfl) (k := hK' _ _ ?_) (hc := Try.call13) (h := hg1); clear hK' K') | ((show AC _ _ (D.fn 13 _) _ _); refine acall_p (f := 13) (e := rfl) (hr := rfl) (k := hK' _ _ ?_) (hc := Try.call13) (h := hg2); clear hK' K'))) | refine al_e rfl rfl ?_ | refine al_u rfl rfl ?_ | ((fail_if_success (refine al_t rfl rfl fun K' hK' => ?_)); refine al_s _ rfl rfl rfl (fun hb => ?_) (fun hb => ?_)))); all_goals (refine al_nil ?_; (simp only [go_sem, simprocAttr, List.length_map]); refine hK _ ?_; clear hK K))

        (refine awp_reg_seq [6] fun K hK => ?_; (repeat' (first | ((first | refine al_r rfl fun K' hK' => ?_ | refine al_d rfl fun K' hK' => ?_ | refine al_t rfl rfl fun K' hK' => ?_); (repeat (first | (simp only [go_sem, simprocAttr, List.length_map, hq1, hq2, hq3, hn1, hn2, hb1, hb2, hYa, hYb, Int.toNat_natCast, List.getElem?_map, Option.map_some, Letter.row, downL, beq_self_eq_true]) | refine AS.mk ?_ | refine AAp.grow ?_)); (first | ((first | refine hK' _ _ ?_ | refine ⟨?_, hK' _ _ ?_⟩ | refine ⟨?_, ?_, hK' _ _ ?_⟩ | refine ⟨?_, ?_, ?_, hK' _ _ ?_⟩) <;> clear hK' K' <;> (first | (show alist _ _ _ _ _ _; skip) | (intro s hs; cases hs; done) | assumption | (simp; done) | omega | (simp; omega) | skip)) | ((show AC _ _ (D.fn 21 _) _ _); refine acall_g (f := 21) (e := rfl) (hr := rfl) (hf := by simp [D.all, D.allL, flatL, flatPV]) (k := hK' _ _ ?_) (hc := Try.call21) (h := hgd1); clear hK' K') | ((show AC _ _ (D.fn 21 _) _ _); refine acall_g (f := 21) (e := rfl) (hr := rfl) (hf := by simp [D.all, D.allL, flatL, flatPV]) (k := hK' _ _ ?_) (hc := Try.call21) (h := hgd2); clear hK' K'))) | refine al_e rfl rfl ?_ | refine al_u rfl rfl ?_ | ((fail_if_success (refine al_t rfl rfl fun K' hK' => ?_)); refine al_s _ rfl rfl rfl (fun hb => ?_) (fun hb => ?_)))); all_goals (refine al_nil ?_; (simp only [go_sem, simprocAttr, List.length_map, hq1, hq2, hq3, hn1, hn2, hb1, hb2, hYa, hYb, Int.toNat_natCast, List.getElem?_map, Option.map_some, Letter.row, downL, beq_self_eq_true]); refine hK _ ?_; clear hK K))
        all_goals (refine awp_ret ?_; (first | refine hR _ _ (.inl rfl) rfl ?_ | refine hR _ _ (.inl rfl) rfl ?_ ?_); (first | (simp only [go_sem, simprocAttr, List.length_map, hq1, hq2, hq3, hn1, hn2, hb1, hb2, hYa, hYb, Int.toNat_natCast, List.getElem?_map, Option.map_some, Letter.row, downL, beq_self_eq_true, *, Bool.and_true, Bool.and_false, Bool.true_and, Bool.false_and, Bool.or_true, Bool.true_or, Bool.or_false, Bool.false_or, Bool.not_true, Bool.not_false, Bool.false_eq_true]; done) | contradiction | (simp_all; done) | simp only [go_sem, simprocAttr, List.length_map, hq1, hq2, hq3, hn1, hn2, hb1, hb2, hYa, hYb, Int.toNat_natCast, List.getElem?_map, Option.map_some, Letter.row, downL, beq_self_eq_true, *, Bool.and_true, Bool.and_false, Bool.true_and, Bool.false_and, Bool.or_true, Bool.true_or, Bool.or_false, Bool.false_or, Bool.not_true, Bool.not_false, Bool.false_eq_true]))
end Go.Proofs.Ytfjfiemcdnicoaa.P
