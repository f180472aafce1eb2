/- Words are read: contracts, and that they are read as they were told. -/
import Derived.Test.YtagphggcdmjlpaaH12
import Derived.Laws.BitsLemmas
set_option linter.unusedSimpArgs false
set_option linter.unusedVariables false
set_option maxHeartbeats 1000000
namespace Go.Proofs.Ytagphggcdmjlpaa.P
open Go.Ab Go.Proofs.Ytagphggcdmjlpaa.T

/-- What Read answers. -/
def readT (w : Int) : Int := IntKind.i64.wrap (w.tmod 8)
def readN0 (w : Int) : Int := IntKind.i64.wrap (w.fdiv (2 ^ min 3 64))
def readN1 (w : Int) : Int := (IntKind.i64.wrap w).fdiv (2 ^ min 3 64)
def readN (w : Int) : Int := if readT w = 1 then readN1 w else readN0 w

def readS (w : Int) : Int × Int × Int :=
  if (wordS (readT w) (readN w)).2 = 0 ∧ (wordS (readT w) (readN w)).1 = w then (readT w, readN w, 0) else (0, 0, 3)

theorem readW (w : Int) : ACallP Try.prog 62 [wD w] (.tup [iD (readS w).1, iD (readS w).2.1, iD (readS w).2.2]) := by
  obtain ⟨t, ht⟩ : ∃ t, t = readT w := ⟨_, rfl⟩
  obtain ⟨n, hn⟩ : ∃ n, n = readN w := ⟨_, rfl⟩
  have hw := word t n
  obtain ⟨x, hx⟩ : ∃ x, x = wordS t n := ⟨_, rfl⟩
  rw [← hx] at hw
  have hr : readS w = if x.2 = 0 ∧ x.1 = w then (t, n, 0) else (0, 0, 3) := by rw [hx, ht, hn]; rfl
  obtain ⟨x, e⟩ := x
  simp only at hw hr
  rw [hr]
  refine acallp_fn [2, 3, 4] Try.func62 rfl rfl Try.ntmps62 (by simp) fun R hR => ?_
  (refine awp_reg_seq [0] fun K hK => ?_; (repeat' (first | ((first | refine al_r rfl fun K' hK' => ?_ | refine al_d rfl fun K' hK' => ?_ | refine al_t rfl rfl fun K' hK' => ?_); (repeat (first | (simp only [go_sem, simprocAttr]) | refine AS.mk ?_ | refine AAp.grow ?_)); (first | ((first | refine hK' _ _ ?_ | refine ⟨?_, hK' _ _ ?_⟩ | refine ⟨?_, ?_, hK' _ _ ?_⟩ | refine ⟨?_, ?_, ?_, hK' _ _ ?_⟩) <;> clear hK' K' <;> (first | (show alist _ _ _ _ _ _; skip) | (intro s hs; cases hs; done) | assumption | (simp; done) | omega | (simp; omega) | skip)) | ((show AC _ _ (D.fn 57 _) _ _); refine acall_p (f := 57) (e := rfl) (hr := rfl) (k := hK' _ _ ?_) (hc := Try.call57) (h := hw); clear hK' K'))) | refine al_e rfl rfl ?_ | refine al_u rfl rfl ?_ | ((fail_if_success (refine al_t rfl rfl fun K' hK' => ?_)); refine al_s _ rfl rfl rfl (fun hb => ?_) (fun hb => ?_)))); all_goals (refine al_nil ?_; (simp only [go_sem, simprocAttr]); refine hK _ ?_; clear hK K))
  (refine awp_reg_seq [0, 5, 6] fun K hK => ?_; (repeat' (first | ((first | refine al_r rfl fun K' hK' => ?_ | refine al_d rfl fun K' hK' => ?_ | refine al_t rfl rfl fun K' hK' => ?_); (repeat (first | (simp only [go_sem, simprocAttr]) | refine AS.mk ?_ | refine AAp.grow ?_)); (first | ((first | refine hK' _ _ ?_ | refine ⟨?_, hK' _ _ ?_⟩ | refine ⟨?_, ?_, hK' _ _ ?_⟩ | refine ⟨?_, ?_, ?_, hK' _ _ ?_⟩) <;> clear hK' K' <;> (first | (show alist _ _ _ _ _ _; skip) | (intro s hs; cases hs; done) | assumption | (simp; done) | omega | (simp; omega) | skip)) | ((show AC _ _ (D.fn 57 _) _ _); refine acall_p (f := 57) (e := rfl) (hr := rfl) (k := hK' _ _ ?_) (hc := Try.call57) (h := hw); clear hK' K'))) | refine al_e rfl rfl ?_ | refine al_u rfl rfl ?_ | ((fail_if_success (refine al_t rfl rfl fun K' hK' => ?_)); refine al_s _ rfl rfl rfl (fun hb => ?_) (fun hb => ?_)))); all_goals (refine al_nil ?_; (simp only [go_sem, simprocAttr]); refine hK _ ?_; clear hK K))
  rw [show IntKind.i64.wrap (w.tmod 8) = t from ht.symm, show IntKind.i64.wrap (w.fdiv (2 ^ min 3 64)) = readN0 w from rfl]
  refine awp_seq_k fun K hK => ?_
  have key : ∀ d, K ⟨ofL [(0, wD w), (5, iD t), (6, iD n), (16, d)], [], 0⟩ := by
    intro d
    refine hK _ ?_; clear hK K
    refine awp_seq_k fun K hK => ?_
    (refine awp_reg_seq [0, 5, 6, 7, 8] fun K hK => ?_; (repeat' (first | ((first | refine al_r rfl fun K' hK' => ?_ | refine al_d rfl fun K' hK' => ?_ | refine al_t rfl rfl fun K' hK' => ?_); (repeat (first | (simp only [go_sem, simprocAttr]) | refine AS.mk ?_ | refine AAp.grow ?_)); (first | ((first | refine hK' _ _ ?_ | refine ⟨?_, hK' _ _ ?_⟩ | refine ⟨?_, ?_, hK' _ _ ?_⟩ | refine ⟨?_, ?_, ?_, hK' _ _ ?_⟩) <;> clear hK' K' <;> (first | (show alist _ _ _ _ _ _; skip) | (intro s hs; cases hs; done) | assumption | (simp; done) | omega | (simp; omega) | skip)) | ((show AC _ _ (D.fn 57 _) _ _); refine acall_p (f := 57) (e := rfl) (hr := rfl) (k := hK' _ _ ?_) (hc := Try.call57) (h := hw); clear hK' K'))) | refine al_e rfl rfl ?_ | refine al_u rfl rfl ?_ | ((fail_if_success (refine al_t rfl rfl fun K' hK' => ?_)); refine al_s _ rfl rfl rfl (fun hb => ?_) (fun hb => ?_)))); all_goals (refine al_nil ?_; (simp only [go_sem, simprocAttr]); refine hK _ ?_; clear hK K))
    refine awp_reg_to [5, 6, 32] (k := ?_) (h := ?_) (s1 := ⟨ofL [(5, iD t), (6, iD n), (32, bD (e != 0 || x != w))], [], 0⟩); · ((repeat' (first | ((first | refine al_r rfl fun K' hK' => ?_ | refine al_d rfl fun K' hK' => ?_ | refine al_t rfl rfl fun K' hK' => ?_); (repeat (first | (simp only [go_sem, simprocAttr]) | refine AS.mk ?_ | refine AAp.grow ?_)); (first | ((first | refine hK' _ _ ?_ | refine ⟨?_, hK' _ _ ?_⟩ | refine ⟨?_, ?_, hK' _ _ ?_⟩ | refine ⟨?_, ?_, ?_, hK' _ _ ?_⟩) <;> clear hK' K' <;> (first | (show alist _ _ _ _ _ _; skip) | (intro s hs; cases hs; done) | assumption | (simp; done) | omega | (simp; omega) | skip)) | ((show AC _ _ (D.fn 57 _) _ _); refine acall_p (f := 57) (e := rfl) (hr := rfl) (k := hK' _ _ ?_) (hc := Try.call57) (h := hw); clear hK' K'))) | refine al_e rfl rfl ?_ | refine al_u rfl rfl ?_ | ((fail_if_success (refine al_t rfl rfl fun K' hK' => ?_)); refine al_s _ rfl rfl rfl (fun hb => ?_) (fun hb => ?_)))); all_goals (refine al_nil ?_; simp only [go_sem, simprocAttr, *, Bool.and_true, Bool.and_false, Bool.true_and, Bool.false_and, Bool.or_true, Bool.true_or, Bool.or_false, Bool.false_or, Bool.not_true, Bool.not_false, Bool.false_eq_true]))
    refine awp_if (_) rfl (fun hc => ?_) (fun hc => ?_)
    · (refine awp_reg_seq [2, 3, 4] fun K hK => ?_; (repeat' (first | ((first | refine al_r rfl fun K' hK' => ?_ | refine al_d rfl fun K' hK' => ?_ | refine al_t rfl rfl fun K' hK' => ?_); (repeat (first | (simp only [go_sem, simprocAttr]) | refine AS.mk ?_ | refine AAp.grow ?_)); (first | ((first | refine hK' _ _ ?_ | refine ⟨?_, hK' _ _ ?_⟩ | refine ⟨?_, ?_, hK' _ _ ?_⟩ | refine ⟨?_, ?_, ?_, hK' _ _ ?_⟩) <;> clear hK' K' <;> (first | (show alist _ _ _ _ _ _; skip) | (intro s hs; cases hs; done) | assumption | (simp; done) | omega | (simp; omega) | skip)) | ((show AC _ _ (D.fn 57 _) _ _); refine acall_p (f := 57) (e := rfl) (hr := rfl) (k := hK' _ _ ?_) (hc := Try.call57) (h := hw); clear hK' K'))) | refine al_e rfl rfl ?_ | refine al_u rfl rfl ?_ | ((fail_if_success (refine al_t rfl rfl fun K' hK' => ?_)); refine al_s _ rfl rfl rfl (fun hb => ?_) (fun hb => ?_)))); all_goals (refine al_nil ?_; (simp only [go_sem, simprocAttr]); refine hK _ ?_; clear hK K))
      refine awp_ret ?_; (first | refine hR _ _ (.inl rfl) rfl ?_ | refine hR _ _ (.inl rfl) rfl ?_ ?_)
      have : ¬ (e = 0 ∧ x = w) := by simp only [Bool.or_eq_true, bne_iff_ne] at hc; omega
      rw [if_neg this]
      simp only [go_sem, simprocAttr]
    · refine awp_skip ?_
      refine hK _ ?_; clear hK K
      (refine awp_reg_seq [2, 3, 4] fun K hK => ?_; (repeat' (first | ((first | refine al_r rfl fun K' hK' => ?_ | refine al_d rfl fun K' hK' => ?_ | refine al_t rfl rfl fun K' hK' => ?_); (repeat (first | (simp only [go_sem, simprocAttr]) | refine AS.mk ?_ | refine AAp.grow ?_)); (first | ((first | refine hK' _ _ ?_ | refine ⟨?_, hK' _ _ ?_⟩ | refine ⟨?_, ?_, hK' _ _ ?_⟩ | refine ⟨?_, ?_, ?_, hK' _ _ ?_⟩) <;> clear hK' K' <;> (first | (show alist _ _ _ _ _ _; skip) | (intro s hs; cases hs; done) | assumption | (simp; done) | omega | (simp; omega) | skip)) | ((show AC _ _ (D.fn 57 _) _ _); refine acall_p (f := 57) (e := rfl) (hr := rfl) (k := hK' _ _ ?_) (hc := Try.call57) (h := hw); clear hK' K'))) | refine al_e rfl rfl ?_ | refine al_u rfl rfl ?_ | ((fail_if_success (refine al_t rfl rfl fun K' hK' => ?_)); refine al_s _ rfl rfl rfl (fun hb => ?_) (fun hb => ?_)))); all_goals (refine al_nil ?_; (simp only [go_sem, simprocAttr]); refine hK _ ?_; clear hK K))
      refine awp_ret ?_; (first | refine hR _ _ (.inl rfl) rfl ?_ | refine hR _ _ (.inl rfl) rfl ?_ ?_)
      have : e = 0 ∧ x = w := by simpa using hc
      rw [if_pos this]
      simp only [go_sem, simprocAttr]
  clear hK
  (refine awp_reg_seq [0, 5, 6, 16] fun K hK => ?_; (repeat' (first | ((first | refine al_r rfl fun K' hK' => ?_ | refine al_d rfl fun K' hK' => ?_ | refine al_t rfl rfl fun K' hK' => ?_); (repeat (first | (simp only [go_sem, simprocAttr]) | refine AS.mk ?_ | refine AAp.grow ?_)); (first | ((first | refine hK' _ _ ?_ | refine ⟨?_, hK' _ _ ?_⟩ | refine ⟨?_, ?_, hK' _ _ ?_⟩ | refine ⟨?_, ?_, ?_, hK' _ _ ?_⟩) <;> clear hK' K' <;> (first | (show alist _ _ _ _ _ _; skip) | (intro s hs; cases hs; done) | assumption | (simp; done) | omega | (simp; omega) | skip)) | ((show AC _ _ (D.fn 57 _) _ _); refine acall_p (f := 57) (e := rfl) (hr := rfl) (k := hK' _ _ ?_) (hc := Try.call57) (h := hw); clear hK' K'))) | refine al_e rfl rfl ?_ | refine al_u rfl rfl ?_ | ((fail_if_success (refine al_t rfl rfl fun K' hK' => ?_)); refine al_s _ rfl rfl rfl (fun hb => ?_) (fun hb => ?_)))); all_goals (refine al_nil ?_; (simp only [go_sem, simprocAttr]); refine hK _ ?_; clear hK K))
  refine awp_if (_) rfl (fun hc => ?_) (fun hc => ?_)
  · have h1 : readT w = 1 := by rw [← ht]; simpa using hc
    (refine awp_reg_end [0, 5, 6, 16] fun K hK => ?_; (repeat' (first | ((first | refine al_r rfl fun K' hK' => ?_ | refine al_d rfl fun K' hK' => ?_ | refine al_t rfl rfl fun K' hK' => ?_); (repeat (first | (simp only [go_sem, simprocAttr]) | refine AS.mk ?_ | refine AAp.grow ?_)); (first | ((first | refine hK' _ _ ?_ | refine ⟨?_, hK' _ _ ?_⟩ | refine ⟨?_, ?_, hK' _ _ ?_⟩ | refine ⟨?_, ?_, ?_, hK' _ _ ?_⟩) <;> clear hK' K' <;> (first | (show alist _ _ _ _ _ _; skip) | (intro s hs; cases hs; done) | assumption | (simp; done) | omega | (simp; omega) | skip)) | ((show AC _ _ (D.fn 57 _) _ _); refine acall_p (f := 57) (e := rfl) (hr := rfl) (k := hK' _ _ ?_) (hc := Try.call57) (h := hw); clear hK' K'))) | refine al_e rfl rfl ?_ | refine al_u rfl rfl ?_ | ((fail_if_success (refine al_t rfl rfl fun K' hK' => ?_)); refine al_s _ rfl rfl rfl (fun hb => ?_) (fun hb => ?_)))); all_goals (refine al_nil ?_; (simp only [go_sem, simprocAttr]); refine hK _ ?_; clear hK K))
    have : (IntKind.i64.wrap w).fdiv (2 ^ min 3 64) = n := by rw [hn, readN, if_pos h1]; rfl
    rw [this]
    exact key _
  · have h1 : ¬ readT w = 1 := by rw [← ht]; simpa using hc
    refine awp_skip ?_
    have : readN0 w = n := by rw [hn, readN, if_neg h1]
    rw [this]
    exact key _
/-- The kinds by tags. -/
def kindOf (t : Int) : Int := if t = 0 then 1 else if t = 1 then 2 else if t = 2 then 3 else 6

/-- What Value answers. -/
def valueS (w : Int) : Int × Int × Bool := if (readS w).2.2 != 0 || (readS w).1 == 4 then (0, 0, false) else (kindOf (readS w).1, (readS w).2.1, true)

theorem readS_range (w : Int) (h : (readS w).2.2 = 0) : 0 ≤ (readS w).1 ∧ (readS w).1 ≤ 4 := by
  unfold readS at h ⊢
  split at h
  · rename_i hc
    rw [if_pos hc]
    have := hc.1
    unfold wordS at this
    split at this
    · rename_i hf
      simp [fits] at hf
      show 0 ≤ readT w ∧ readT w ≤ 4
      omega
    · split at this <;> simp at this
  · simp at h

theorem valueW (w : Int) : ACallP Try.prog 81 [wD w] (.tup [.agg [iD (valueS w).1, iD (valueS w).2.1, .p (.lit (.string ByteArray.empty)), .p (.sl [])], bD (valueS w).2.2]) := by
  have hw := readW w
  have hv : valueS w = if (readS w).2.2 != 0 || (readS w).1 == 4 then (0, 0, false) else (kindOf (readS w).1, (readS w).2.1, true) := rfl
  have hrg := readS_range w
  generalize readS w = x at hw hv hrg
  obtain ⟨t, n, e⟩ := x
  simp only at hw hv hrg
  rw [hv]
  refine acallp_fnv [.cell 2 38, .tmp 3] Try.func81 rfl rfl Try.ntmps81 (by simp) fun R hR => ?_
  (refine awp_reg_seq [0, 2] fun K hK => ?_; (repeat' (first | ((first | refine al_r rfl fun K' hK' => ?_ | refine al_d rfl fun K' hK' => ?_ | refine al_t rfl rfl fun K' hK' => ?_); (repeat (first | (simp only [go_sem, simprocAttr]) | refine AS.mk ?_ | refine AAp.grow ?_)); (first | ((first | refine hK' _ _ ?_ | refine ⟨?_, hK' _ _ ?_⟩ | refine ⟨?_, ?_, hK' _ _ ?_⟩ | refine ⟨?_, ?_, ?_, hK' _ _ ?_⟩) <;> clear hK' K' <;> (first | (show alist _ _ _ _ _ _; skip) | (intro s hs; cases hs; done) | assumption | (simp; done) | omega | (simp; omega) | skip)) | ((show AC _ _ (D.fn 57 _) _ _); refine acall_p (f := 57) (e := rfl) (hr := rfl) (k := hK' _ _ ?_) (hc := Try.call57) (h := hw); clear hK' K') | ((show AC _ _ (D.fn 62 _) _ _); refine acall_p (f := 62) (e := rfl) (hr := rfl) (k := hK' _ _ ?_) (hc := Try.call62) (h := hw); clear hK' K'))) | refine al_e rfl rfl ?_ | refine al_u rfl rfl ?_ | ((fail_if_success (refine al_t rfl rfl fun K' hK' => ?_)); refine al_s _ rfl rfl rfl (fun hb => ?_) (fun hb => ?_)))); all_goals (refine al_nil ?_; (simp only [go_sem, simprocAttr]); refine hK _ ?_; clear hK K))
  (refine awp_reg_seq [2, 4, 5, 6] fun K hK => ?_; (repeat' (first | ((first | refine al_r rfl fun K' hK' => ?_ | refine al_d rfl fun K' hK' => ?_ | refine al_t rfl rfl fun K' hK' => ?_); (repeat (first | (simp only [go_sem, simprocAttr]) | refine AS.mk ?_ | refine AAp.grow ?_)); (first | ((first | refine hK' _ _ ?_ | refine ⟨?_, hK' _ _ ?_⟩ | refine ⟨?_, ?_, hK' _ _ ?_⟩ | refine ⟨?_, ?_, ?_, hK' _ _ ?_⟩) <;> clear hK' K' <;> (first | (show alist _ _ _ _ _ _; skip) | (intro s hs; cases hs; done) | assumption | (simp; done) | omega | (simp; omega) | skip)) | ((show AC _ _ (D.fn 57 _) _ _); refine acall_p (f := 57) (e := rfl) (hr := rfl) (k := hK' _ _ ?_) (hc := Try.call57) (h := hw); clear hK' K') | ((show AC _ _ (D.fn 62 _) _ _); refine acall_p (f := 62) (e := rfl) (hr := rfl) (k := hK' _ _ ?_) (hc := Try.call62) (h := hw); clear hK' K'))) | refine al_e rfl rfl ?_ | refine al_u rfl rfl ?_ | ((fail_if_success (refine al_t rfl rfl fun K' hK' => ?_)); refine al_s _ rfl rfl rfl (fun hb => ?_) (fun hb => ?_)))); all_goals (refine al_nil ?_; (simp only [go_sem, simprocAttr]); refine hK _ ?_; clear hK K))
  refine awp_seq_k fun K hK => ?_
  refine awp_reg_to [2, 4, 5, 18] (k := ?_) (h := ?_) (s1 := ⟨ofL [(2, .ptr 0 0 0), (4, iD t), (5, iD n), (18, bD (e != 0 || t == 4))], [.box [iD 0, iD 0, .p (.lit (.string ByteArray.empty)), .nil]], 0⟩); · ((repeat' (first | ((first | refine al_r rfl fun K' hK' => ?_ | refine al_d rfl fun K' hK' => ?_ | refine al_t rfl rfl fun K' hK' => ?_); (repeat (first | (simp only [go_sem, simprocAttr]) | refine AS.mk ?_ | refine AAp.grow ?_)); (first | ((first | refine hK' _ _ ?_ | refine ⟨?_, hK' _ _ ?_⟩ | refine ⟨?_, ?_, hK' _ _ ?_⟩ | refine ⟨?_, ?_, ?_, hK' _ _ ?_⟩) <;> clear hK' K' <;> (first | (show alist _ _ _ _ _ _; skip) | (intro s hs; cases hs; done) | assumption | (simp; done) | omega | (simp; omega) | skip)) | ((show AC _ _ (D.fn 57 _) _ _); refine acall_p (f := 57) (e := rfl) (hr := rfl) (k := hK' _ _ ?_) (hc := Try.call57) (h := hw); clear hK' K') | ((show AC _ _ (D.fn 62 _) _ _); refine acall_p (f := 62) (e := rfl) (hr := rfl) (k := hK' _ _ ?_) (hc := Try.call62) (h := hw); clear hK' K'))) | refine al_e rfl rfl ?_ | refine al_u rfl rfl ?_ | ((fail_if_success (refine al_t rfl rfl fun K' hK' => ?_)); refine al_s _ rfl rfl rfl (fun hb => ?_) (fun hb => ?_)))); all_goals (refine al_nil ?_; simp only [go_sem, simprocAttr, *, Bool.and_true, Bool.and_false, Bool.true_and, Bool.false_and, Bool.or_true, Bool.true_or, Bool.or_false, Bool.false_or, Bool.not_true, Bool.not_false, Bool.false_eq_true]))
  refine awp_if (_) rfl (fun hc => ?_) (fun hc => ?_)
  · (refine awp_reg_seq [2, 3] fun K hK => ?_; (repeat' (first | ((first | refine al_r rfl fun K' hK' => ?_ | refine al_d rfl fun K' hK' => ?_ | refine al_t rfl rfl fun K' hK' => ?_); (repeat (first | (simp only [go_sem, simprocAttr]) | refine AS.mk ?_ | refine AAp.grow ?_)); (first | ((first | refine hK' _ _ ?_ | refine ⟨?_, hK' _ _ ?_⟩ | refine ⟨?_, ?_, hK' _ _ ?_⟩ | refine ⟨?_, ?_, ?_, hK' _ _ ?_⟩) <;> clear hK' K' <;> (first | (show alist _ _ _ _ _ _; skip) | (intro s hs; cases hs; done) | assumption | (simp; done) | omega | (simp; omega) | skip)) | ((show AC _ _ (D.fn 57 _) _ _); refine acall_p (f := 57) (e := rfl) (hr := rfl) (k := hK' _ _ ?_) (hc := Try.call57) (h := hw); clear hK' K') | ((show AC _ _ (D.fn 62 _) _ _); refine acall_p (f := 62) (e := rfl) (hr := rfl) (k := hK' _ _ ?_) (hc := Try.call62) (h := hw); clear hK' K'))) | refine al_e rfl rfl ?_ | refine al_u rfl rfl ?_ | ((fail_if_success (refine al_t rfl rfl fun K' hK' => ?_)); refine al_s _ rfl rfl rfl (fun hb => ?_) (fun hb => ?_)))); all_goals (refine al_nil ?_; (simp only [go_sem, simprocAttr]); refine hK _ ?_; clear hK K))
    refine awp_ret ?_; refine hR _ _ (.inl rfl) rfl ?_
    simp only [hc, go_sem, simprocAttr]
  · refine awp_skip ?_
    refine hK _ ?_; clear hK K
    have he : e = 0 ∧ t ≠ 4 := by simpa using hc
    have h0 : 0 ≤ t ∧ t ≤ 4 := hrg he.1
    have h1 : 0 ≤ t := h0.1
    have h2 : t < 4 := by omega
    have hcs : ([.p (.lit (.int .i64 1)), .p (.lit (.int .i64 2)), .p (.lit (.int .i64 3)), .p (.lit (.int .i64 6))] : List D)[t.toNat]? = some (iD (kindOf t)) := by
      have : t = 0 ∨ t = 1 ∨ t = 2 ∨ t = 3 := by omega
      rcases this with rfl | rfl | rfl | rfl <;> rfl

    refine awp_reg_seq [2, 3] fun K hK => ?_
    repeat' (first | ((first | refine al_r rfl fun K' hK' => ?_ | refine al_d rfl fun K' hK' => ?_ | refine al_t rfl rfl fun K' hK' => ?_); (repeat (first | (simp only [go_sem, simprocAttr, hcs, h1, h2, Nat.mul_one, Int.ofNat_eq_natCast, Int.cast_ofNat_Int]) | refine AS.mk ?_ | refine AAp.grow ?_)); (first | ((first | refine hK' _ _ ?_ | refine ⟨?_, hK' _ _ ?_⟩ | refine ⟨?_, ?_, hK' _ _ ?_⟩ | refine ⟨?_, ?_, ?_, hK' _ _ ?_⟩) <;> clear hK' K' <;> (first | (show alist _ _ _ _ _ _; skip) | (intro s hs; cases hs; done) | assumption | (simp; done) | omega | (simp; omega) | skip)) | ((show AC _ _ (D.fn 57 _) _ _); refine acall_p (f := 57) (e := rfl) (hr := rfl) (k := hK' _ _ ?_) (hc := Try.call57) (h := hw); clear hK' K') | ((show AC _ _ (D.fn 62 _) _ _); refine acall_p (f := 62) (e := rfl) (hr := rfl) (k := hK' _ _ ?_) (hc := Try.call62) (h := hw); clear hK' K'))) | refine al_e rfl rfl ?_ | refine al_u rfl rfl ?_ | ((fail_if_success (refine al_t rfl rfl fun K' hK' => ?_)); refine al_s _ rfl rfl rfl (fun hb => ?_) (fun hb => ?_)))
    (refine al_nil ?_; (simp only [go_sem, simprocAttr, hcs, h1, h2, Nat.mul_one, Int.ofNat_eq_natCast, Int.cast_ofNat_Int]); refine hK _ ?_; clear hK K)
    refine awp_ret ?_; refine hR _ _ (.inl rfl) rfl ?_
    simp only [hc, go_sem, simprocAttr, hcs, h1, h2, Nat.mul_one, Int.ofNat_eq_natCast, Int.cast_ofNat_Int, Bool.false_eq_true]



open Go.RowKit

theorem fits_lt {t n : Int} (h : fits t n = true) : 0 ≤ t ∧ t ≤ 4 ∧ -1152921504606846976 ≤ n ∧ n < 1152921504606846976 ∧ (t ≠ 1 → 0 ≤ n) := by
  simp [fits] at h
  omega

theorem wrapU (n : Int) : IntKind.u64.wrap n = n % 18446744073709551616 := by simp [IntKind.wrap, IntKind.bits, IntKind.signed]

/-- Eight times a number, joined with less than eight: the sum. -/
theorem wordOf_eq {t n : Int} (h0 : 0 ≤ t) (h1 : t < 8) : wordOf t n = (n * 8) % 18446744073709551616 + t := by
  unfold wordOf
  rw [wrapU, wrapU, wrapU]
  have e : n % 18446744073709551616 * 8 % 18446744073709551616 = n * 8 % 18446744073709551616 := by omega
  rw [e, show t % 18446744073709551616 = t by omega]
  have := bits_join .u64 64 (by decide) (fun n h0 h1 => by rw [wrapU]; omega) 3 (n * 8 % 18446744073709551616) t
  exact this (by omega) (by omega) (by omega) h0 (by omega) (by omega)

theorem wordS_snd (t n : Int) : (wordS t n).2 = 0 ↔ fits t n = true := by
  unfold wordS; split
  · simp [*]
  · split <;> simp [*]

theorem wordS_fst {t n : Int} (h : fits t n = true) : (wordS t n).1 = (n * 8) % 18446744073709551616 + t := by
  have a := fits_lt h
  unfold wordS; rw [if_pos h]; exact wordOf_eq (by omega) (by omega)

theorem wrapI (n : Int) : IntKind.i64.wrap n = (n + 9223372036854775808) % 18446744073709551616 - 9223372036854775808 := by
  simp only [IntKind.wrap, IntKind.bits, IntKind.signed]
  simp
  omega

theorem p8 : ((2 : Int) ^ min 3 64) = 8 := by decide

/-- A word is read as it was told. -/
theorem read_word {t n : Int} (h : fits t n = true) : readS (wordS t n).1 = (t, n, 0) := by
  have hl := fits_lt h
  have e := wordS_fst h
  have h0 : 0 ≤ (wordS t n).1 := by rw [e]; omega
  have ht : readT (wordS t n).1 = t := by
    unfold readT
    rw [Int.tmod_eq_emod_of_nonneg h0, wrapI, e]
    omega
  have hn : readN (wordS t n).1 = n := by
    unfold readN
    rw [ht]
    by_cases h1 : t = 1
    · rw [if_pos h1]
      unfold readN1
      rw [p8, wrapI, Int.fdiv_eq_ediv_of_nonneg _ (by omega), e]
      omega
    · rw [if_neg h1]
      unfold readN0
      rw [p8, wrapI, Int.fdiv_eq_ediv_of_nonneg _ (by omega), e]
      have := hl.2.2.2.2 h1
      omega
  unfold readS
  rw [ht, hn, if_pos ⟨(wordS_snd t n).2 h, rfl⟩]

theorem tag_kind {k : Int} (h : 0 ≤ tagOf k) : kindOf (tagOf k) = k ∧ tagOf k ≠ 4 := by
  unfold tagOf at h ⊢
  by_cases h1 : k = 1
  · rw [if_pos h1, h1]; decide
  rw [if_neg h1] at h ⊢
  by_cases h2 : k = 2
  · rw [if_pos h2, h2]; decide
  rw [if_neg h2] at h ⊢
  by_cases h3 : k = 3
  · rw [if_pos h3, h3]; decide
  rw [if_neg h3] at h ⊢
  by_cases h4 : k = 6
  · rw [if_pos h4, h4]; decide
  rw [if_neg h4] at h
  omega

theorem of_value {k n : Int} {text : ByteArray} {args : List (List PV)} (h : (ofS k n text args).2 = true) : (valueS (ofS k n text args).1).2.2 = true ∧ (valueS (ofS k n text args).1).1 = k ∧ (valueS (ofS k n text args).1).2.1 = n := by
  unfold ofS at h ⊢
  split at h
  · cases h
  · rename_i hc
    rw [if_neg hc]
    have h0 : 0 ≤ tagOf k := by
      simp only [Bool.or_eq_true, decide_eq_true_eq, not_or] at hc
      omega
    have hf : fits (tagOf k) n = true := by rw [← wordS_snd]; simpa using h
    have hr := read_word hf
    obtain ⟨hk, h4⟩ := tag_kind h0
    show (valueS (wordS (tagOf k) n).1).2.2 = true ∧ (valueS (wordS (tagOf k) n).1).1 = k ∧ (valueS (wordS (tagOf k) n).1).2.1 = n
    unfold valueS
    rw [hr]
    have : ((0 : Int) != 0 || tagOf k == 4) = false := by simp [h4]
    simp only [this]
    exact ⟨rfl, hk, rfl⟩


def kindsS (k : Int) : Int := if k = 1 then 2 else if k = 2 then 4 else if k = 3 then 5 else if k = 4 then 7 else 8

theorem kinds (k : Int) (h1 : 1 ≤ k) (h5 : k ≤ 5) : ACallP Try.prog 82 [iD k] (iD (kindsS k)) := by
  have h0 : 0 ≤ k := by omega
  have h6 : k < 6 := by omega
  have hcs : ([iD 0, .p (.lit (.int .i64 2)), .p (.lit (.int .i64 4)), .p (.lit (.int .i64 5)), .p (.lit (.int .i64 7)), .p (.lit (.int .i64 8))] : List D)[k.toNat]? = some (iD (kindsS k)) := by
    have : k = 1 ∨ k = 2 ∨ k = 3 ∨ k = 4 ∨ k = 5 := by omega
    rcases this with rfl | rfl | rfl | rfl | rfl <;> rfl
  refine acallp_fn [2] Try.func82 rfl rfl Try.ntmps82 (by simp) fun R hR => ?_
  (refine awp_reg_seq [0] fun K hK => ?_; (repeat' (first | ((first | refine al_r rfl fun K' hK' => ?_ | refine al_d rfl fun K' hK' => ?_ | refine al_t rfl rfl fun K' hK' => ?_); (repeat (first | (simp only [go_sem, simprocAttr]) | refine AS.mk ?_ | refine AAp.grow ?_)); (first | ((first | refine hK' _ _ ?_ | refine ⟨?_, hK' _ _ ?_⟩ | refine ⟨?_, ?_, hK' _ _ ?_⟩ | refine ⟨?_, ?_, ?_, hK' _ _ ?_⟩) <;> clear hK' K' <;> (first | (show alist _ _ _ _ _ _; skip) | (intro s hs; cases hs; done) | assumption | (simp; done) | omega | (simp; omega) | skip)))) | refine al_e rfl rfl ?_ | refine al_u rfl rfl ?_ | ((fail_if_success (refine al_t rfl rfl fun K' hK' => ?_)); refine al_s _ rfl rfl rfl (fun hb => ?_) (fun hb => ?_)))); all_goals (refine al_nil ?_; (simp only [go_sem, simprocAttr]); refine hK _ ?_; clear hK K))

  (refine awp_reg_seq [2] fun K hK => ?_; (repeat' (first | ((first | refine al_r rfl fun K' hK' => ?_ | refine al_d rfl fun K' hK' => ?_ | refine al_t rfl rfl fun K' hK' => ?_); (repeat (first | (simp only [go_sem, simprocAttr, hcs, h0, h6, Nat.mul_one, Int.ofNat_eq_natCast, Int.cast_ofNat_Int]) | refine AS.mk ?_ | refine AAp.grow ?_)); (first | ((first | refine hK' _ _ ?_ | refine ⟨?_, hK' _ _ ?_⟩ | refine ⟨?_, ?_, hK' _ _ ?_⟩ | refine ⟨?_, ?_, ?_, hK' _ _ ?_⟩) <;> clear hK' K' <;> (first | (show alist _ _ _ _ _ _; skip) | (intro s hs; cases hs; done) | assumption | (simp; done) | omega | (simp; omega) | skip)))) | refine al_e rfl rfl ?_ | refine al_u rfl rfl ?_ | ((fail_if_success (refine al_t rfl rfl fun K' hK' => ?_)); refine al_s _ rfl rfl rfl (fun hb => ?_) (fun hb => ?_)))); all_goals (refine al_nil ?_; (simp only [go_sem, simprocAttr, hcs, h0, h6, Nat.mul_one, Int.ofNat_eq_natCast, Int.cast_ofNat_Int]); refine hK _ ?_; clear hK K))
  all_goals (refine awp_ret ?_; (first | refine hR _ _ (.inl rfl) rfl ?_ | refine hR _ _ (.inl rfl) rfl ?_ ?_); (first | (simp only [go_sem, simprocAttr, hcs, h0, h6, Nat.mul_one, Int.ofNat_eq_natCast, Int.cast_ofNat_Int, *, Bool.and_true, Bool.and_false, Bool.true_and, Bool.false_and, Bool.or_true, Bool.true_or, Bool.or_false, Bool.false_or, Bool.not_true, Bool.not_false, Bool.false_eq_true]; done) | contradiction | (simp_all; done) | simp only [go_sem, simprocAttr, hcs, h0, h6, Nat.mul_one, Int.ofNat_eq_natCast, Int.cast_ofNat_Int, *, Bool.and_true, Bool.and_false, Bool.true_and, Bool.false_and, Bool.or_true, Bool.true_or, Bool.or_false, Bool.false_or, Bool.not_true, Bool.not_false, Bool.false_eq_true]))
end Go.Proofs.Ytagphggcdmjlpaa.P
