/- The parts of a value against the parts of a pattern: a contract. -/
import Derived.Test.YtofbhmcmejhepaaD7
set_option linter.unusedSimpArgs false
set_option linter.unusedVariables false
set_option maxHeartbeats 1000000
namespace Go.Proofs.Ytofbhmcmejhepaa.P
open Go.Ab Go.Proofs.Ytofbhmcmejhepaa.T

abbrev Found := List (List PV) × Bool
/-- What parts answers, out of what its calls answer. -/
def partsR (Ls : List Found) : Found := if Ls.all (·.2) then (Ls.flatMap (·.1), true) else ([], false)

theorem flat_succ {Ls : List Found} {i : Nat} {x : Found} (h : Ls[i]? = some x) : (Ls.take (i + 1)).flatMap (·.1) = (Ls.take i).flatMap (·.1) ++ x.1 := by
  rw [List.take_add_one, h, List.flatMap_append]; simp

theorem all_succ {Ls : List Found} {i : Nat} {x : Found} (h : Ls[i]? = some x) : (Ls.take (i + 1)).all (·.2) = ((Ls.take i).all (·.2) && x.2) := by
  rw [List.take_add_one, h, List.all_append]; simp

theorem all_not {Ls : List Found} {i : Nat} {x : Found} (h : Ls[i]? = some x) (hx : x.2 = false) : partsR Ls = ([], false) := by
  unfold partsR
  rw [if_neg]
  intro h2
  have := List.all_eq_true.1 h2 x (List.mem_of_getElem? h)
  rw [hx] at this; cases this

theorem flat_len (Ls : List Found) (i : Nat) : ((Ls.take i).flatMap (·.1)).length ≤ (Ls.flatMap (·.1)).length := by
  conv => rhs; rw [← List.take_append_drop i Ls]
  rw [List.flatMap_append, List.length_append]; omega


theorem partsNo (q : Pat) (k n : Int) (t : ByteArray) (a : List (List PV)) (h : (k != 5 || !(t.toList == q.text.toList) || (a.length : Int) != (q.args.length : Int)) = true) : ACallP Try.prog 54 [patD q, valD k n t a] (.tup [.p (.sl []), bD false]) := by
  obtain ⟨A, hA⟩ : ∃ A, (k != 5) = A := ⟨_, rfl⟩
  obtain ⟨B, hB⟩ : ∃ B, (t.toList == q.text.toList) = B := ⟨_, rfl⟩
  obtain ⟨C, hC⟩ : ∃ C, ((a.length : Int) != (q.args.length : Int)) = C := ⟨_, rfl⟩
  rw [hA, hB, hC] at h
  refine acallp_fn [4, 5] Try.func54 rfl rfl Try.ntmps54 (by simp) fun R hR => ?_
  (refine awp_reg_seq [2, 3] fun K hK => ?_; (repeat' (first | ((first | refine al_r rfl fun K' hK' => ?_ | refine al_d rfl fun K' hK' => ?_ | refine al_t rfl rfl fun K' hK' => ?_); (repeat (first | (simp only [go_sem, simprocAttr]) | refine AS.mk ?_ | refine AAp.grow ?_)); (first | ((first | refine hK' _ _ ?_ | refine ⟨?_, hK' _ _ ?_⟩ | refine ⟨?_, ?_, hK' _ _ ?_⟩ | refine ⟨?_, ?_, ?_, hK' _ _ ?_⟩) <;> clear hK' K' <;> (first | (show alist _ _ _ _ _ _; skip) | (intro s hs; cases hs; done) | assumption | (simp; done) | omega | (simp; omega) | skip)))) | refine al_e rfl rfl ?_ | refine al_u rfl rfl ?_ | ((fail_if_success (refine al_t rfl rfl fun K' hK' => ?_)); refine al_s _ rfl rfl rfl (fun hb => ?_) (fun hb => ?_)))); all_goals (refine al_nil ?_; (simp only [go_sem, simprocAttr]); refine hK _ ?_; clear hK K))
  (refine awp_frz [2, 3] [] (by decide) (by simp) ?_; simp only [go_sem, simprocAttr])
  refine awp_seq_k fun K hK => ?_

  refine awp_reg_tov [2, 3, 29] [(29, bD true)] (h := ?_) (k := ?_)
  · cases A <;> cases B <;> cases C <;> first | (cases h; done) | skip
    all_goals ((repeat' (first | ((first | refine al_r rfl fun K' hK' => ?_ | refine al_d rfl fun K' hK' => ?_ | refine al_t rfl rfl fun K' hK' => ?_); (repeat (first | (simp only [go_sem, simprocAttr, hA, hB, hC]) | refine AS.mk ?_ | refine AAp.grow ?_)); (first | ((first | refine hK' _ _ ?_ | refine ⟨?_, hK' _ _ ?_⟩ | refine ⟨?_, ?_, hK' _ _ ?_⟩ | refine ⟨?_, ?_, ?_, hK' _ _ ?_⟩) <;> clear hK' K' <;> (first | (show alist _ _ _ _ _ _; skip) | (intro s hs; cases hs; done) | assumption | (simp; done) | omega | (simp; omega) | skip)))) | refine al_e rfl rfl ?_ | refine al_u rfl rfl ?_ | ((fail_if_success (refine al_t rfl rfl fun K' hK' => ?_)); refine al_s _ rfl rfl rfl (fun hb => ?_) (fun hb => ?_)))); all_goals (refine al_nil ?_; (first | (simp only [go_sem, simprocAttr, hA, hB, hC, *, Bool.and_true, Bool.and_false, Bool.true_and, Bool.false_and, Bool.or_true, Bool.true_or, Bool.or_false, Bool.false_or, Bool.not_true, Bool.not_false, Bool.false_eq_true]; done) | contradiction | (simp_all; done) | simp only [go_sem, simprocAttr, hA, hB, hC, *, Bool.and_true, Bool.and_false, Bool.true_and, Bool.false_and, Bool.or_true, Bool.true_or, Bool.or_false, Bool.false_or, Bool.not_true, Bool.not_false, Bool.false_eq_true])))
  (intro K hK; (simp only [go_sem, simprocAttr, hA, hB, hC]); refine hK _ ?_; clear hK K)
  refine awp_if (_) rfl (fun hc => ?_) (fun hc => ?_)
  · (refine awp_reg_seq [4, 5] fun K hK => ?_; (repeat' (first | ((first | refine al_r rfl fun K' hK' => ?_ | refine al_d rfl fun K' hK' => ?_ | refine al_t rfl rfl fun K' hK' => ?_); (repeat (first | (simp only [go_sem, simprocAttr, hA, hB, hC]) | refine AS.mk ?_ | refine AAp.grow ?_)); (first | ((first | refine hK' _ _ ?_ | refine ⟨?_, hK' _ _ ?_⟩ | refine ⟨?_, ?_, hK' _ _ ?_⟩ | refine ⟨?_, ?_, ?_, hK' _ _ ?_⟩) <;> clear hK' K' <;> (first | (show alist _ _ _ _ _ _; skip) | (intro s hs; cases hs; done) | assumption | (simp; done) | omega | (simp; omega) | skip)))) | refine al_e rfl rfl ?_ | refine al_u rfl rfl ?_ | ((fail_if_success (refine al_t rfl rfl fun K' hK' => ?_)); refine al_s _ rfl rfl rfl (fun hb => ?_) (fun hb => ?_)))); all_goals (refine al_nil ?_; (simp only [go_sem, simprocAttr, hA, hB, hC]); refine hK _ ?_; clear hK K))
    all_goals (refine awp_ret ?_; (first | refine hR _ _ (.inl rfl) rfl ?_ | refine hR _ _ (.inl rfl) rfl ?_ ?_); (first | (simp only [go_sem, simprocAttr, hA, hB, hC, *, Bool.and_true, Bool.and_false, Bool.true_and, Bool.false_and, Bool.or_true, Bool.true_or, Bool.or_false, Bool.false_or, Bool.not_true, Bool.not_false, Bool.false_eq_true]; done) | contradiction | (simp_all; done) | simp only [go_sem, simprocAttr, hA, hB, hC, *, Bool.and_true, Bool.and_false, Bool.true_and, Bool.false_and, Bool.or_true, Bool.true_or, Bool.or_false, Bool.false_or, Bool.not_true, Bool.not_false, Bool.false_eq_true]))
  · cases hc

abbrev IsVal (r : List PV) : Prop := ∃ (k n : Int) (t : ByteArray) (a : List (List PV)), r = [.lit (.int .i64 k), .lit (.int .i64 n), .lit (.string t), .sl a]
abbrev IsPat (r : List PV) : Prop := ∃ q : Pat, r = q.row


theorem partsYes (q : Pat) (k n : Int) (t : ByteArray) (a : List (List PV)) (Ls : List Found) (h : (k != 5 || !(t.toList == q.text.toList) || (a.length : Int) != (q.args.length : Int)) = false)
    (hq : ∀ r, r ∈ q.args → IsPat r) (ha : ∀ r, r ∈ a → IsVal r) (hmax : q.args.length ≤ maxLen) (hl : Ls.length = q.args.length) (hsz : (Ls.flatMap (·.1)).length ≤ 2000000) (hrow : ∀ f, f ∈ Ls → ∀ z, z ∈ f.1 → z.length = 4)
    (hF : ∀ (i : Nat) x y f, q.args[i]? = some x → a[i]? = some y → Ls[i]? = some f → ACallP Try.prog 27 [.agg (x.map .p), .agg (y.map .p)] (.tup [.p (.sl f.1), bD f.2])) :
    ACallP Try.prog 54 [patD q, valD k n t a] (.tup [.p (.sl (partsR Ls).1), bD (partsR Ls).2]) := by
  obtain ⟨A, hA⟩ : ∃ A, (k != 5) = A := ⟨_, rfl⟩
  obtain ⟨B, hB⟩ : ∃ B, (t.toList == q.text.toList) = B := ⟨_, rfl⟩
  obtain ⟨C, hC⟩ : ∃ C, ((a.length : Int) != (q.args.length : Int)) = C := ⟨_, rfl⟩
  have hal : a.length = q.args.length := by simp at h; omega
  rw [hA, hB, hC] at h
  obtain ⟨V, hV⟩ : ∃ V, V = partsR Ls := ⟨_, rfl⟩
  rw [← hV]
  refine acallp_fn [4, 5] Try.func54 rfl rfl Try.ntmps54 (by simp) fun R hR => ?_
  (refine awp_reg_seq [2, 3] fun K hK => ?_; (repeat' (first | ((first | refine al_r rfl fun K' hK' => ?_ | refine al_d rfl fun K' hK' => ?_ | refine al_t rfl rfl fun K' hK' => ?_); (repeat (first | (simp only [go_sem, simprocAttr]) | refine AS.mk ?_ | refine AAp.grow ?_)); (first | ((first | refine hK' _ _ ?_ | refine ⟨?_, hK' _ _ ?_⟩ | refine ⟨?_, ?_, hK' _ _ ?_⟩ | refine ⟨?_, ?_, ?_, hK' _ _ ?_⟩) <;> clear hK' K' <;> (first | (show alist _ _ _ _ _ _; skip) | (intro s hs; cases hs; done) | assumption | (simp; done) | omega | (simp; omega) | skip)))) | refine al_e rfl rfl ?_ | refine al_u rfl rfl ?_ | ((fail_if_success (refine al_t rfl rfl fun K' hK' => ?_)); refine al_s _ rfl rfl rfl (fun hb => ?_) (fun hb => ?_)))); all_goals (refine al_nil ?_; (simp only [go_sem, simprocAttr]); refine hK _ ?_; clear hK K))
  (refine awp_frz [2, 3] [] (by decide) (by simp) ?_; simp only [go_sem, simprocAttr])
  refine awp_seq_k fun K hK => ?_

  refine awp_reg_tov [2, 3, 29] [(29, bD false)] (h := ?_) (k := ?_)
  · cases A <;> cases B <;> cases C <;> first | (cases h; done) | skip
    all_goals ((repeat' (first | ((first | refine al_r rfl fun K' hK' => ?_ | refine al_d rfl fun K' hK' => ?_ | refine al_t rfl rfl fun K' hK' => ?_); (repeat (first | (simp only [go_sem, simprocAttr, hA, hB, hC]) | refine AS.mk ?_ | refine AAp.grow ?_)); (first | ((first | refine hK' _ _ ?_ | refine ⟨?_, hK' _ _ ?_⟩ | refine ⟨?_, ?_, hK' _ _ ?_⟩ | refine ⟨?_, ?_, ?_, hK' _ _ ?_⟩) <;> clear hK' K' <;> (first | (show alist _ _ _ _ _ _; skip) | (intro s hs; cases hs; done) | assumption | (simp; done) | omega | (simp; omega) | skip)))) | refine al_e rfl rfl ?_ | refine al_u rfl rfl ?_ | ((fail_if_success (refine al_t rfl rfl fun K' hK' => ?_)); refine al_s _ rfl rfl rfl (fun hb => ?_) (fun hb => ?_)))); all_goals (refine al_nil ?_; (first | (simp only [go_sem, simprocAttr, hA, hB, hC, *, Bool.and_true, Bool.and_false, Bool.true_and, Bool.false_and, Bool.or_true, Bool.true_or, Bool.or_false, Bool.false_or, Bool.not_true, Bool.not_false, Bool.false_eq_true]; done) | contradiction | (simp_all; done) | simp only [go_sem, simprocAttr, hA, hB, hC, *, Bool.and_true, Bool.and_false, Bool.true_and, Bool.false_and, Bool.or_true, Bool.true_or, Bool.or_false, Bool.false_or, Bool.not_true, Bool.not_false, Bool.false_eq_true])))
  (intro K hK; (simp only [go_sem, simprocAttr, hA, hB, hC]); refine hK _ ?_; clear hK K)
  refine awp_if (_) rfl (fun hc => ?_) (fun hc => ?_)
  · cases hc
  · refine awp_skip ?_
    refine hK _ ?_; clear hK K
    (refine awp_reg_seq [2, 3, 6] fun K hK => ?_; (repeat' (first | ((first | refine al_r rfl fun K' hK' => ?_ | refine al_d rfl fun K' hK' => ?_ | refine al_t rfl rfl fun K' hK' => ?_); (repeat (first | (simp only [go_sem, simprocAttr, hA, hB, hC]) | refine AS.mk ?_ | refine AAp.grow ?_)); (first | ((first | refine hK' _ _ ?_ | refine ⟨?_, hK' _ _ ?_⟩ | refine ⟨?_, ?_, hK' _ _ ?_⟩ | refine ⟨?_, ?_, ?_, hK' _ _ ?_⟩) <;> clear hK' K' <;> (first | (show alist _ _ _ _ _ _; skip) | (intro s hs; cases hs; done) | assumption | (simp; done) | omega | (simp; omega) | skip)))) | refine al_e rfl rfl ?_ | refine al_u rfl rfl ?_ | ((fail_if_success (refine al_t rfl rfl fun K' hK' => ?_)); refine al_s _ rfl rfl rfl (fun hb => ?_) (fun hb => ?_)))); all_goals (refine al_nil ?_; (simp only [go_sem, simprocAttr, hA, hB, hC]); refine hK _ ?_; clear hK K))
    refine awp_born 6 4 rfl ?_
    refine awp_seq_k fun K hK => ?_
    (refine awp_reg_seq [3, 6, 31, 32, 33] fun K hK => ?_; (repeat' (first | ((first | refine al_r rfl fun K' hK' => ?_ | refine al_d rfl fun K' hK' => ?_ | refine al_t rfl rfl fun K' hK' => ?_); (repeat (first | (simp only [go_sem, simprocAttr, hA, hB, hC]) | refine AS.mk ?_ | refine AAp.grow ?_)); (first | ((first | refine hK' _ _ ?_ | refine ⟨?_, hK' _ _ ?_⟩ | refine ⟨?_, ?_, hK' _ _ ?_⟩ | refine ⟨?_, ?_, ?_, hK' _ _ ?_⟩) <;> clear hK' K' <;> (first | (show alist _ _ _ _ _ _; skip) | (intro s hs; cases hs; done) | assumption | (simp; done) | omega | (simp; omega) | skip)))) | refine al_e rfl rfl ?_ | refine al_u rfl rfl ?_ | ((fail_if_success (refine al_t rfl rfl fun K' hK' => ?_)); refine al_s _ rfl rfl rfl (fun hb => ?_) (fun hb => ?_)))); all_goals (refine al_nil ?_; (simp only [go_sem, simprocAttr, hA, hB, hC]); refine hK _ ?_; clear hK K))
    refine awp_block ?_
    -- loop 0 head [3, 6, 31, 32, 33]
    refine awp_loop_cut (fun m s => ∃ i : Nat, i ≤ q.args.length ∧ m = q.args.length - i ∧ (Ls.take i).all (·.2) = true ∧ s = ⟨ofL [(3, .rd [.lit (.int .i64 k), .lit (.int .i64 n), .lit (.string t), .sl a] 0), (6, .ref 0 0 ((Ls.take i).flatMap (·.1)).length), (31, .p (.sl q.args)), (32, iD q.args.length), (33, iD i)], [.row 4 ((Ls.take i).flatMap (·.1))], 0⟩) ⟨_, 0, Nat.zero_le _, rfl, rfl, rfl⟩ ?_
    rintro m s ⟨i, hi, hm, hall, rfl⟩
    (refine awp_reg_seq [3, 6, 31, 32, 33, 34] fun K hK => ?_; (repeat' (first | ((first | refine al_r rfl fun K' hK' => ?_ | refine al_d rfl fun K' hK' => ?_ | refine al_t rfl rfl fun K' hK' => ?_); (repeat (first | (simp only [go_sem, simprocAttr, hA, hB, hC]) | refine AS.mk ?_ | refine AAp.grow ?_)); (first | ((first | refine hK' _ _ ?_ | refine ⟨?_, hK' _ _ ?_⟩ | refine ⟨?_, ?_, hK' _ _ ?_⟩ | refine ⟨?_, ?_, ?_, hK' _ _ ?_⟩) <;> clear hK' K' <;> (first | (show alist _ _ _ _ _ _; skip) | (intro s hs; cases hs; done) | assumption | (simp; done) | omega | (simp; omega) | skip)))) | refine al_e rfl rfl ?_ | refine al_u rfl rfl ?_ | ((fail_if_success (refine al_t rfl rfl fun K' hK' => ?_)); refine al_s _ rfl rfl rfl (fun hb => ?_) (fun hb => ?_)))); all_goals (refine al_nil ?_; (simp only [go_sem, simprocAttr, hA, hB, hC]); refine hK _ ?_; clear hK K))
    refine awp_seq_k fun K hK => ?_
    refine awp_if (decide ((i : Int) < (q.args.length : Int))) rfl (fun hc => ?_) (fun hc => ?_)
    · refine awp_skip ?_
      refine hK _ ?_; clear hK K
      refine awp_seq_k fun K hK => ?_
      refine awp_block ?_
      have hi2 : i < q.args.length := by simpa using hc
      obtain ⟨x, hget⟩ := get_of_lt hi2
      obtain ⟨y, hgeta⟩ := get_of_lt (l := a) (i := i) (by omega)
      obtain ⟨f, hgetf⟩ := get_of_lt (l := Ls) (i := i) (by omega)
      have hnn : (0 : Int) ≤ (i : Int) := Int.natCast_nonneg i
      have hnx : IntKind.i64.wrap ((i : Int) + 1) = ((i + 1 : Nat) : Int) := wrap_next hi2 hmax
      have hcall := hF i x y f hget hgeta hgetf
      obtain ⟨qq, rfl⟩ := hq x (List.mem_of_getElem? hget)
      obtain ⟨yk, yn, yt, ya, rfl⟩ := ha y (List.mem_of_getElem? hgeta)
      have hi3 : i < a.length := by omega
      have hfl := flat_len Ls (i + 1)
      rw [flat_succ hgetf, List.length_append] at hfl
      have hal2 := all_succ hgetf
      have hfs := flat_succ hgetf
      have hno := all_not hgetf
      have hz4 := hrow f (List.mem_of_getElem? hgetf)
      obtain ⟨f, fb⟩ := f
      simp only [Pat.row, List.map_cons, List.map_nil] at hcall hfl hal2 hfs hno hz4
      rw [hall, Bool.true_and] at hal2
      generalize hacc : (Ls.take i).flatMap (·.1) = acc at *
      have hta : List.take acc.length acc = acc := List.take_of_length_le (Nat.le_refl _)
      have hfi : (acc.length + f.length) * 56 ≤ 140737488355328 := by omega

      (refine awp_reg_seq [3, 6, 7, 8, 31, 32, 33] fun K hK => ?_; (repeat' (first | ((first | refine al_r rfl fun K' hK' => ?_ | refine al_d rfl fun K' hK' => ?_ | refine al_t rfl rfl fun K' hK' => ?_); (repeat (first | (simp only [go_sem, simprocAttr, hget, hgeta, hnn, hi2, hi3, hnx, hta, hfi, Int.toNat_natCast, Pat.row, List.drop_zero]) | refine AS.mk ?_ | refine AAp.grow ?_)); (first | ((first | refine hK' _ _ ?_ | refine ⟨?_, hK' _ _ ?_⟩ | refine ⟨?_, ?_, hK' _ _ ?_⟩ | refine ⟨?_, ?_, ?_, hK' _ _ ?_⟩) <;> clear hK' K' <;> (first | (show alist _ _ _ _ _ _; skip) | (intro s hs; cases hs; done) | assumption | (simp; done) | omega | (simp; omega) | skip)))) | refine al_e rfl rfl ?_ | refine al_u rfl rfl ?_ | ((fail_if_success (refine al_t rfl rfl fun K' hK' => ?_)); refine al_s _ rfl rfl rfl (fun hb => ?_) (fun hb => ?_)))); all_goals (refine al_nil ?_; (simp only [go_sem, simprocAttr, hget, hgeta, hnn, hi2, hi3, hnx, hta, hfi, Int.toNat_natCast, Pat.row, List.drop_zero]); refine hK _ ?_; clear hK K))
      (refine awp_frz [3, 6, 7, 8, 31, 32, 33] [0] (by decide) (by simp) ?_; simp only [go_sem, simprocAttr, hget, hgeta, hnn, hi2, hi3, hnx, hta, hfi, Int.toNat_natCast, Pat.row, List.drop_zero])
      refine awp_draw_seq (by kernel_rfl) [3, 6, 9, 10, 31, 32, 33] fun K hK => ?_
      (first | (first | refine ah_r 0 rfl (by kernel_rfl) rfl fun K' hK' => ?_ | refine ah_t 0 rfl (by kernel_rfl) rfl rfl fun K' hK' => ?_); (simp only [go_sem, simprocAttr, hget, hgeta, hnn, hi2, hi3, hnx, hta, hfi, Int.toNat_natCast, Pat.row, List.drop_zero]); (first | (refine hK' _ ?_); clear hK' K' | ((first | refine ⟨?_, hK' _ ?_⟩ | refine ⟨?_, ?_, hK' _ ?_⟩) <;> clear hK' K' <;> (first | (show alist _ _ _ _ _ _; skip) | (intro s hs; cases hs; done) | assumption | (simp; done) | omega | (simp; omega) | skip))) | refine ah_e 0 rfl (by kernel_rfl) rfl rfl ?_ | refine ah_u 0 rfl (by kernel_rfl) rfl rfl ?_)
      (first | (first | refine ah_r 1 rfl (by kernel_rfl) rfl fun K' hK' => ?_ | refine ah_t 1 rfl (by kernel_rfl) rfl rfl fun K' hK' => ?_); (simp only [go_sem, simprocAttr, hget, hgeta, hnn, hi2, hi3, hnx, hta, hfi, Int.toNat_natCast, Pat.row, List.drop_zero]); (first | (refine hK' _ ?_); clear hK' K' | ((first | refine ⟨?_, hK' _ ?_⟩ | refine ⟨?_, ?_, hK' _ ?_⟩) <;> clear hK' K' <;> (first | (show alist _ _ _ _ _ _; skip) | (intro s hs; cases hs; done) | assumption | (simp; done) | omega | (simp; omega) | skip))) | refine ah_e 1 rfl (by kernel_rfl) rfl rfl ?_ | refine ah_u 1 rfl (by kernel_rfl) rfl rfl ?_)
      (first | (first | refine ah_r 2 rfl (by kernel_rfl) rfl fun K' hK' => ?_ | refine ah_t 2 rfl (by kernel_rfl) rfl rfl fun K' hK' => ?_); (simp only [go_sem, simprocAttr, hget, hgeta, hnn, hi2, hi3, hnx, hta, hfi, Int.toNat_natCast, Pat.row, List.drop_zero]); (first | (refine hK' _ ?_); clear hK' K' | ((first | refine ⟨?_, hK' _ ?_⟩ | refine ⟨?_, ?_, hK' _ ?_⟩) <;> clear hK' K' <;> (first | (show alist _ _ _ _ _ _; skip) | (intro s hs; cases hs; done) | assumption | (simp; done) | omega | (simp; omega) | skip))) | refine ah_e 2 rfl (by kernel_rfl) rfl rfl ?_ | refine ah_u 2 rfl (by kernel_rfl) rfl rfl ?_)
      (first | (first | refine ah_r 3 rfl (by kernel_rfl) rfl fun K' hK' => ?_ | refine ah_t 3 rfl (by kernel_rfl) rfl rfl fun K' hK' => ?_); (simp only [go_sem, simprocAttr, hget, hgeta, hnn, hi2, hi3, hnx, hta, hfi, Int.toNat_natCast, Pat.row, List.drop_zero]); (first | (refine hK' _ ?_); clear hK' K' | ((first | refine ⟨?_, hK' _ ?_⟩ | refine ⟨?_, ?_, hK' _ ?_⟩) <;> clear hK' K' <;> (first | (show alist _ _ _ _ _ _; skip) | (intro s hs; cases hs; done) | assumption | (simp; done) | omega | (simp; omega) | skip))) | refine ah_e 3 rfl (by kernel_rfl) rfl rfl ?_ | refine ah_u 3 rfl (by kernel_rfl) rfl rfl ?_)
      (first | (first | refine ah_r 4 rfl (by kernel_rfl) rfl fun K' hK' => ?_ | refine ah_t 4 rfl (by kernel_rfl) rfl rfl fun K' hK' => ?_); (simp only [go_sem, simprocAttr, hget, hgeta, hnn, hi2, hi3, hnx, hta, hfi, Int.toNat_natCast, Pat.row, List.drop_zero]); (first | (refine hK' _ ?_); clear hK' K' | ((first | refine ⟨?_, hK' _ ?_⟩ | refine ⟨?_, ?_, hK' _ ?_⟩) <;> clear hK' K' <;> (first | (show alist _ _ _ _ _ _; skip) | (intro s hs; cases hs; done) | assumption | (simp; done) | omega | (simp; omega) | skip))) | refine ah_e 4 rfl (by kernel_rfl) rfl rfl ?_ | refine ah_u 4 rfl (by kernel_rfl) rfl rfl ?_)
      (first | (first | refine ah_r 5 rfl (by kernel_rfl) rfl fun K' hK' => ?_ | refine ah_t 5 rfl (by kernel_rfl) rfl rfl fun K' hK' => ?_); (simp only [go_sem, simprocAttr, hget, hgeta, hnn, hi2, hi3, hnx, hta, hfi, Int.toNat_natCast, Pat.row, List.drop_zero]); (first | (refine hK' _ ?_); clear hK' K' | ((first | refine ⟨?_, hK' _ ?_⟩ | refine ⟨?_, ?_, hK' _ ?_⟩) <;> clear hK' K' <;> (first | (show alist _ _ _ _ _ _; skip) | (intro s hs; cases hs; done) | assumption | (simp; done) | omega | (simp; omega) | skip))) | refine ah_e 5 rfl (by kernel_rfl) rfl rfl ?_ | refine ah_u 5 rfl (by kernel_rfl) rfl rfl ?_)
      (refine ah_one 6 rfl (by kernel_rfl) ?_; (repeat' (first | ((first | refine al_r rfl fun K' hK' => ?_ | refine al_d rfl fun K' hK' => ?_ | refine al_t rfl rfl fun K' hK' => ?_); (repeat (first | (simp only [go_sem, simprocAttr, hget, hgeta, hnn, hi2, hi3, hnx, hta, hfi, Int.toNat_natCast, Pat.row, List.drop_zero]) | refine AS.mk ?_ | refine AAp.grow ?_)); (first | ((first | refine hK' _ _ ?_ | refine ⟨?_, hK' _ _ ?_⟩ | refine ⟨?_, ?_, hK' _ _ ?_⟩ | refine ⟨?_, ?_, ?_, hK' _ _ ?_⟩) <;> clear hK' K' <;> (first | (show alist _ _ _ _ _ _; skip) | (intro s hs; cases hs; done) | assumption | (simp; done) | omega | (simp; omega) | skip)) | ((show AC _ _ (D.fn 27 _) _ _); refine acall_p (f := 27) (e := rfl) (hr := rfl) (k := hK' _ _ ?_) (hc := Try.call27) (h := hcall); clear hK' K'))) | refine al_e rfl rfl ?_ | refine al_u rfl rfl ?_ | ((fail_if_success (refine al_t rfl rfl fun K' hK' => ?_)); refine al_s _ rfl rfl rfl (fun hb => ?_) (fun hb => ?_)))); all_goals refine al_nil ?_)
      (first | (first | refine ah_r 7 rfl (by kernel_rfl) rfl fun K' hK' => ?_ | refine ah_t 7 rfl (by kernel_rfl) rfl rfl fun K' hK' => ?_); (simp only [go_sem, simprocAttr, hget, hgeta, hnn, hi2, hi3, hnx, hta, hfi, Int.toNat_natCast, Pat.row, List.drop_zero]); (first | (refine hK' _ ?_); clear hK' K' | ((first | refine ⟨?_, hK' _ ?_⟩ | refine ⟨?_, ?_, hK' _ ?_⟩) <;> clear hK' K' <;> (first | (show alist _ _ _ _ _ _; skip) | (intro s hs; cases hs; done) | assumption | (simp; done) | omega | (simp; omega) | skip))) | refine ah_e 7 rfl (by kernel_rfl) rfl rfl ?_ | refine ah_u 7 rfl (by kernel_rfl) rfl rfl ?_)
      (first | (first | refine ah_r 8 rfl (by kernel_rfl) rfl fun K' hK' => ?_ | refine ah_t 8 rfl (by kernel_rfl) rfl rfl fun K' hK' => ?_); (simp only [go_sem, simprocAttr, hget, hgeta, hnn, hi2, hi3, hnx, hta, hfi, Int.toNat_natCast, Pat.row, List.drop_zero]); (first | (refine hK' _ ?_); clear hK' K' | ((first | refine ⟨?_, hK' _ ?_⟩ | refine ⟨?_, ?_, hK' _ ?_⟩) <;> clear hK' K' <;> (first | (show alist _ _ _ _ _ _; skip) | (intro s hs; cases hs; done) | assumption | (simp; done) | omega | (simp; omega) | skip))) | refine ah_e 8 rfl (by kernel_rfl) rfl rfl ?_ | refine ah_u 8 rfl (by kernel_rfl) rfl rfl ?_)
      (first | (first | refine ah_r 9 rfl (by kernel_rfl) rfl fun K' hK' => ?_ | refine ah_t 9 rfl (by kernel_rfl) rfl rfl fun K' hK' => ?_); (simp only [go_sem, simprocAttr, hget, hgeta, hnn, hi2, hi3, hnx, hta, hfi, Int.toNat_natCast, Pat.row, List.drop_zero]); (first | (refine hK' _ ?_); clear hK' K' | ((first | refine ⟨?_, hK' _ ?_⟩ | refine ⟨?_, ?_, hK' _ ?_⟩) <;> clear hK' K' <;> (first | (show alist _ _ _ _ _ _; skip) | (intro s hs; cases hs; done) | assumption | (simp; done) | omega | (simp; omega) | skip))) | refine ah_e 9 rfl (by kernel_rfl) rfl rfl ?_ | refine ah_u 9 rfl (by kernel_rfl) rfl rfl ?_)
      (first | (first | refine ah_r 10 rfl (by kernel_rfl) rfl fun K' hK' => ?_ | refine ah_t 10 rfl (by kernel_rfl) rfl rfl fun K' hK' => ?_); (simp only [go_sem, simprocAttr, hget, hgeta, hnn, hi2, hi3, hnx, hta, hfi, Int.toNat_natCast, Pat.row, List.drop_zero]); (first | (refine hK' _ ?_); clear hK' K' | ((first | refine ⟨?_, hK' _ ?_⟩ | refine ⟨?_, ?_, hK' _ ?_⟩) <;> clear hK' K' <;> (first | (show alist _ _ _ _ _ _; skip) | (intro s hs; cases hs; done) | assumption | (simp; done) | omega | (simp; omega) | skip))) | refine ah_e 10 rfl (by kernel_rfl) rfl rfl ?_ | refine ah_u 10 rfl (by kernel_rfl) rfl rfl ?_)
      (first | (first | refine ah_r 11 rfl (by kernel_rfl) rfl fun K' hK' => ?_ | refine ah_t 11 rfl (by kernel_rfl) rfl rfl fun K' hK' => ?_); (simp only [go_sem, simprocAttr, hget, hgeta, hnn, hi2, hi3, hnx, hta, hfi, Int.toNat_natCast, Pat.row, List.drop_zero]); (first | (refine hK' _ ?_); clear hK' K' | ((first | refine ⟨?_, hK' _ ?_⟩ | refine ⟨?_, ?_, hK' _ ?_⟩) <;> clear hK' K' <;> (first | (show alist _ _ _ _ _ _; skip) | (intro s hs; cases hs; done) | assumption | (simp; done) | omega | (simp; omega) | skip))) | refine ah_e 11 rfl (by kernel_rfl) rfl rfl ?_ | refine ah_u 11 rfl (by kernel_rfl) rfl rfl ?_)
      (refine ah_done (by kernel_rfl) ?_; (simp only [go_sem, simprocAttr, hget, hgeta, hnn, hi2, hi3, hnx, hta, hfi, Int.toNat_natCast, Pat.row, List.drop_zero]); refine hK _ ?_; clear hK K)
      refine awp_seq_k fun K hK => ?_
      (refine awp_reg_seq [3, 6, 9, 31, 32, 33, 49] fun K hK => ?_; (repeat' (first | ((first | refine al_r rfl fun K' hK' => ?_ | refine al_d rfl fun K' hK' => ?_ | refine al_t rfl rfl fun K' hK' => ?_); (repeat (first | (simp only [go_sem, simprocAttr, hget, hgeta, hnn, hi2, hi3, hnx, hta, hfi, Int.toNat_natCast, Pat.row, List.drop_zero]) | refine AS.mk ?_ | refine AAp.grow ?_)); (first | ((first | refine hK' _ _ ?_ | refine ⟨?_, hK' _ _ ?_⟩ | refine ⟨?_, ?_, hK' _ _ ?_⟩ | refine ⟨?_, ?_, ?_, hK' _ _ ?_⟩) <;> clear hK' K' <;> (first | (show alist _ _ _ _ _ _; skip) | (intro s hs; cases hs; done) | assumption | (simp; done) | omega | (simp; omega) | skip)))) | refine al_e rfl rfl ?_ | refine al_u rfl rfl ?_ | ((fail_if_success (refine al_t rfl rfl fun K' hK' => ?_)); refine al_s _ rfl rfl rfl (fun hb => ?_) (fun hb => ?_)))); all_goals (refine al_nil ?_; (simp only [go_sem, simprocAttr, hget, hgeta, hnn, hi2, hi3, hnx, hta, hfi, Int.toNat_natCast, Pat.row, List.drop_zero]); refine hK _ ?_; clear hK K))
      refine awp_if (_) rfl (fun hc => ?_) (fun hc => ?_)
      · (refine awp_reg_seq [4, 5] fun K hK => ?_; (repeat' (first | ((first | refine al_r rfl fun K' hK' => ?_ | refine al_d rfl fun K' hK' => ?_ | refine al_t rfl rfl fun K' hK' => ?_); (repeat (first | (simp only [go_sem, simprocAttr, hget, hgeta, hnn, hi2, hi3, hnx, hta, hfi, Int.toNat_natCast, Pat.row, List.drop_zero]) | refine AS.mk ?_ | refine AAp.grow ?_)); (first | ((first | refine hK' _ _ ?_ | refine ⟨?_, hK' _ _ ?_⟩ | refine ⟨?_, ?_, hK' _ _ ?_⟩ | refine ⟨?_, ?_, ?_, hK' _ _ ?_⟩) <;> clear hK' K' <;> (first | (show alist _ _ _ _ _ _; skip) | (intro s hs; cases hs; done) | assumption | (simp; done) | omega | (simp; omega) | skip)))) | refine al_e rfl rfl ?_ | refine al_u rfl rfl ?_ | ((fail_if_success (refine al_t rfl rfl fun K' hK' => ?_)); refine al_s _ rfl rfl rfl (fun hb => ?_) (fun hb => ?_)))); all_goals (refine al_nil ?_; (simp only [go_sem, simprocAttr, hget, hgeta, hnn, hi2, hi3, hnx, hta, hfi, Int.toNat_natCast, Pat.row, List.drop_zero]); refine hK _ ?_; clear hK K))
        refine awp_ret ?_; (first | refine hR _ _ (.inl rfl) rfl ?_ | refine hR _ _ (.inl rfl) rfl ?_ ?_)
        rw [hV, hno (by simpa using hc)]
        simp only [go_sem, simprocAttr, hget, hgeta, hnn, hi2, hi3, hnx, hta, hfi, Int.toNat_natCast, Pat.row, List.drop_zero]
      · refine awp_skip ?_
        refine hK _ ?_; clear hK K
        (refine awp_reg_end [3, 6, 31, 32, 33] fun K hK => ?_; (repeat' (first | ((first | refine al_r rfl fun K' hK' => ?_ | refine al_d rfl fun K' hK' => ?_ | refine al_t rfl rfl fun K' hK' => ?_); (repeat (first | (simp only [go_sem, simprocAttr, hget, hgeta, hnn, hi2, hi3, hnx, hta, hfi, Int.toNat_natCast, Pat.row, List.drop_zero]) | refine AS.mk ?_ | refine AAp.grow ?_)); (first | ((first | refine hK' _ _ ?_ | refine ⟨?_, hK' _ _ ?_⟩ | refine ⟨?_, ?_, hK' _ _ ?_⟩ | refine ⟨?_, ?_, ?_, hK' _ _ ?_⟩) <;> clear hK' K' <;> (first | (show alist _ _ _ _ _ _; skip) | (intro s hs; cases hs; done) | assumption | (simp; done) | omega | (simp; omega) | skip)))) | refine al_e rfl rfl ?_ | refine al_u rfl rfl ?_ | ((fail_if_success (refine al_t rfl rfl fun K' hK' => ?_)); refine al_s _ rfl rfl rfl (fun hb => ?_) (fun hb => ?_)))); all_goals (refine al_nil ?_; (simp only [go_sem, simprocAttr, hget, hgeta, hnn, hi2, hi3, hnx, hta, hfi, Int.toNat_natCast, Pat.row, List.drop_zero]); refine hK _ ?_; clear hK K))
        refine hK _ ?_; clear hK K
        (refine awp_reg_end [3, 6, 31, 32, 33] fun K hK => ?_; (repeat' (first | ((first | refine al_r rfl fun K' hK' => ?_ | refine al_d rfl fun K' hK' => ?_ | refine al_t rfl rfl fun K' hK' => ?_); (repeat (first | (simp only [go_sem, simprocAttr, hget, hgeta, hnn, hi2, hi3, hnx, hta, hfi, Int.toNat_natCast, Pat.row, List.drop_zero]) | refine AS.mk ?_ | refine AAp.grow ?_)); (first | ((first | refine hK' _ _ ?_ | refine ⟨?_, hK' _ _ ?_⟩ | refine ⟨?_, ?_, hK' _ _ ?_⟩ | refine ⟨?_, ?_, ?_, hK' _ _ ?_⟩) <;> clear hK' K' <;> (first | (show alist _ _ _ _ _ _; skip) | (intro s hs; cases hs; done) | assumption | (simp; done) | omega | (simp; omega) | skip)))) | refine al_e rfl rfl ?_ | refine al_u rfl rfl ?_ | ((fail_if_success (refine al_t rfl rfl fun K' hK' => ?_)); refine al_s _ rfl rfl rfl (fun hb => ?_) (fun hb => ?_)))); all_goals (refine al_nil ?_; (simp only [go_sem, simprocAttr, hget, hgeta, hnn, hi2, hi3, hnx, hta, hfi, Int.toNat_natCast, Pat.row, List.drop_zero]); refine hK _ ?_; clear hK K))
        refine ⟨q.args.length - (i + 1), by omega, [3, 6, 31, 32, 33], [1], by decide, by intro q hq; exact absurd hq (Nat.not_lt_zero q), i + 1, hi2, rfl, by rw [hal2]; simpa using hc, ?_⟩
        rw [hfs, List.length_append]
        simp only [go_sem, simprocAttr, hget, hgeta, hnn, hi2, hi3, hnx, hta, hfi, Int.toNat_natCast, Pat.row, List.drop_zero]

    · have hie : i = Ls.length := by simp at hc; omega
      rw [hie, List.take_length] at hall ⊢
      have hVV : V = (Ls.flatMap (·.1), true) := by rw [hV]; unfold partsR; rw [if_pos hall]
      have htk : List.take (Ls.flatMap (·.1)).length (Ls.flatMap (·.1)) = Ls.flatMap (·.1) := List.take_of_length_le (Nat.le_refl _)
      refine awp_exit ?_
      clear hK
      refine hK _ ?_; clear hK K
      (refine awp_reg_seq [4, 5] fun K hK => ?_; (repeat' (first | ((first | refine al_r rfl fun K' hK' => ?_ | refine al_d rfl fun K' hK' => ?_ | refine al_t rfl rfl fun K' hK' => ?_); (repeat (first | (simp only [go_sem, simprocAttr]) | refine AS.mk ?_ | refine AAp.grow ?_)); (first | ((first | refine hK' _ _ ?_ | refine ⟨?_, hK' _ _ ?_⟩ | refine ⟨?_, ?_, hK' _ _ ?_⟩ | refine ⟨?_, ?_, ?_, hK' _ _ ?_⟩) <;> clear hK' K' <;> (first | (show alist _ _ _ _ _ _; skip) | (intro s hs; cases hs; done) | assumption | (simp; done) | omega | (simp; omega) | skip)))) | refine al_e rfl rfl ?_ | refine al_u rfl rfl ?_ | ((fail_if_success (refine al_t rfl rfl fun K' hK' => ?_)); refine al_s _ rfl rfl rfl (fun hb => ?_) (fun hb => ?_)))); all_goals (refine al_nil ?_; (simp only [go_sem, simprocAttr]); refine hK _ ?_; clear hK K))
      refine awp_ret ?_; (first | refine hR _ _ (.inl rfl) rfl ?_ | refine hR _ _ (.inl rfl) rfl ?_ ?_)
      rw [hVV]
      simp only [go_sem, simprocAttr, htk]
end Go.Proofs.Ytofbhmcmejhepaa.P
