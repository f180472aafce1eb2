/- Texts joined: E1, E2, E3, E4, D8, E5, E6. -/
import Derived.Test.YtofbhmcmejhepaaD7
import Derived.Test.YtofbhmcmejhepaaAbB
set_option linter.unusedSimpArgs false
set_option linter.unusedVariables false
set_option maxHeartbeats 1000000
/- The parts of a value against the parts of a pattern: a contract. -/
namespace Go.Proofs.Ytofbhmcmejhepaa.P
open Go.Ab Go.Proofs.Ytofbhmcmejhepaa.T

abbrev Found := List (List PV) × Bool
/-- What parts answers, out of what its calls answer. -/
def partsR (Ls : List Found) : Found := if Ls.all (·.2) then (Ls.flatMap (·.1), true) else ([], false)

theorem flat_succ {Ls : List Found} {i : Nat} {x : Found} (h : Ls[i]? = some x) : (Ls.take (i + 1)).flatMap (·.1) = (Ls.take i).flatMap (·.1) ++ x.1 := by
  rw [List.take_add_one, h, List.flatMap_append]; simp

theorem all_succ {Ls : List Found} {i : Nat} {x : Found} (h : Ls[i]? = some x) : (Ls.take (i + 1)).all (·.2) = ((Ls.take i).all (·.2) && x.2) := by
  rw [List.take_add_one, h, List.all_append]; simp

theorem all_not {Ls : List Found} {i : Nat} {x : Found} (h : Ls[i]? = some x) (hx : x.2 = false) : partsR Ls = ([], false) := by
  unfold partsR
  rw [if_neg]
  intro h2
  have := List.all_eq_true.1 h2 x (List.mem_of_getElem? h)
  rw [hx] at this; cases this

theorem flat_len (Ls : List Found) (i : Nat) : ((Ls.take i).flatMap (·.1)).length ≤ (Ls.flatMap (·.1)).length := by
  conv => rhs; rw [← List.take_append_drop i Ls]
  rw [List.flatMap_append, List.length_append]; omega


theorem partsNo (q : Pat) (k n : Int) (t : ByteArray) (a : List (List PV)) (h : (k != 5 || !(t.toList == q.text.toList) || (a.length : Int) != (q.args.length : Int)) = true) : ACallP Try.prog 54 [patD q, valD k n t a] (.tup [.p (.sl []), bD false]) := by
  obtain ⟨A, hA⟩ : ∃ A, (k != 5) = A := ⟨_, rfl⟩
  obtain ⟨B, hB⟩ : ∃ B, (t.toList == q.text.toList) = B := ⟨_, rfl⟩
  obtain ⟨C, hC⟩ : ∃ C, ((a.length : Int) != (q.args.length : Int)) = C := ⟨_, rfl⟩
  rw [hA, hB, hC] at h
  refine acallp_fn [4, 5] Try.func54 rfl rfl Try.ntmps54 (by simp) fun R hR => ?_
  (refine awp_reg_seq [2, 3] fun K hK => ?_; (repeat' (first | ((first | refine al_r rfl fun K' hK' => ?_ | refine al_d rfl fun K' hK' => ?_ | refine al_t rfl rfl fun K' hK' => ?_); (repeat (first | (simp only [go_sem, simprocAttr]) | refine AS.mk ?_ | refine AAp.grow ?_)); (first | ((first | refine hK' _ _ ?_ | refine ⟨?_, hK' _ _ ?_⟩ | refine ⟨?_, ?_, hK' _ _ ?_⟩ | refine ⟨?_, ?_, ?_, hK' _ _ ?_⟩) <;> clear hK' K' <;> (first | (show alist _ _ _ _ _ _; skip) | (intro s hs; cases hs; done) | assumption | (simp; done) | omega | (simp; omega) | skip)))) | refine al_e rfl rfl ?_ | refine al_u rfl rfl ?_ | ((fail_if_success (refine al_t rfl rfl fun K' hK' => ?_)); refine al_s _ rfl rfl rfl (fun hb => ?_) (fun hb => ?_)))); all_goals (refine al_nil ?_; (simp only [go_sem, simprocAttr]); refine hK _ ?_; clear hK K))
  (refine awp_frz [2, 3] [] (by decide) (by simp) ?_; simp only [go_sem, simprocAttr])
  refine awp_seq_k fun K hK => ?_

  refine awp_reg_tov [2, 3, 29] [(29, bD true)] (h := ?_) (k := ?_)
  · cases A <;> cases B <;> cases C <;> first | (cases h; done) | skip
    all_goals ((repeat' (first | ((first | refine al_r rfl fun K' hK' => ?_ | refine al_d rfl fun K' hK' => ?_ | refine al_t rfl rfl fun K' hK' => ?_); (repeat (first | (simp only [go_sem, simprocAttr, hA, hB, hC]) | refine AS.mk ?_ | refine AAp.grow ?_)); (first | ((first | refine hK' _ _ ?_ | refine ⟨?_, hK' _ _ ?_⟩ | refine ⟨?_, ?_, hK' _ _ ?_⟩ | refine ⟨?_, ?_, ?_, hK' _ _ ?_⟩) <;> clear hK' K' <;> (first | (show alist _ _ _ _ _ _; skip) | (intro s hs; cases hs; done) | assumption | (simp; done) | omega | (simp; omega) | skip)))) | refine al_e rfl rfl ?_ | refine al_u rfl rfl ?_ | ((fail_if_success (refine al_t rfl rfl fun K' hK' => ?_)); refine al_s _ rfl rfl rfl (fun hb => ?_) (fun hb => ?_)))); all_goals (refine al_nil ?_; (first | (simp only [go_sem, simprocAttr, hA, hB, hC, *, Bool.and_true, Bool.and_false, Bool.true_and, Bool.false_and, Bool.or_true, Bool.true_or, Bool.or_false, Bool.false_or, Bool.not_true, Bool.not_false, Bool.false_eq_true]; done) | contradiction | (simp_all; done) | simp only [go_sem, simprocAttr, hA, hB, hC, *, Bool.and_true, Bool.and_false, Bool.true_and, Bool.false_and, Bool.or_true, Bool.true_or, Bool.or_false, Bool.false_or, Bool.not_true, Bool.not_false, Bool.false_eq_true])))
  (intro K hK; (simp only [go_sem, simprocAttr, hA, hB, hC]); refine hK _ ?_; clear hK K)
  refine awp_if (_) rfl (fun hc => ?_) (fun hc => ?_)
  · (refine awp_reg_seq [4, 5] fun K hK => ?_; (repeat' (first | ((first | refine al_r rfl fun K' hK' => ?_ | refine al_d rfl fun K' hK' => ?_ | refine al_t rfl rfl fun K' hK' => ?_); (repeat (first | (simp only [go_sem, simprocAttr, hA, hB, hC]) | refine AS.mk ?_ | refine AAp.grow ?_)); (first | ((first | refine hK' _ _ ?_ | refine ⟨?_, hK' _ _ ?_⟩ | refine ⟨?_, ?_, hK' _ _ ?_⟩ | refine ⟨?_, ?_, ?_, hK' _ _ ?_⟩) <;> clear hK' K' <;> (first | (show alist _ _ _ _ _ _; skip) | (intro s hs; cases hs; done) | assumption | (simp; done) | omega | (simp; omega) | skip)))) | refine al_e rfl rfl ?_ | refine al_u rfl rfl ?_ | ((fail_if_success (refine al_t rfl rfl fun K' hK' => ?_)); refine al_s _ rfl rfl rfl (fun hb => ?_) (fun hb => ?_)))); all_goals (refine al_nil ?_; (simp only [go_sem, simprocAttr, hA, hB, hC]); refine hK _ ?_; clear hK K))
    all_goals (refine awp_ret ?_; (first | refine hR _ _ (.inl rfl) rfl ?_ | refine hR _ _ (.inl rfl) rfl ?_ ?_); (first | (simp only [go_sem, simprocAttr, hA, hB, hC, *, Bool.and_true, Bool.and_false, Bool.true_and, Bool.false_and, Bool.or_true, Bool.true_or, Bool.or_false, Bool.false_or, Bool.not_true, Bool.not_false, Bool.false_eq_true]; done) | contradiction | (simp_all; done) | simp only [go_sem, simprocAttr, hA, hB, hC, *, Bool.and_true, Bool.and_false, Bool.true_and, Bool.false_and, Bool.or_true, Bool.true_or, Bool.or_false, Bool.false_or, Bool.not_true, Bool.not_false, Bool.false_eq_true]))
  · cases hc

abbrev IsVal (r : List PV) : Prop := ∃ (k n : Int) (t : ByteArray) (a : List (List PV)), r = [.lit (.int .i64 k), .lit (.int .i64 n), .lit (.string t), .sl a]
abbrev IsPat (r : List PV) : Prop := ∃ q : Pat, r = q.row


theorem partsYes (q : Pat) (k n : Int) (t : ByteArray) (a : List (List PV)) (Ls : List Found) (h : (k != 5 || !(t.toList == q.text.toList) || (a.length : Int) != (q.args.length : Int)) = false)
    (hq : ∀ r, r ∈ q.args → IsPat r) (ha : ∀ r, r ∈ a → IsVal r) (hmax : q.args.length ≤ maxLen) (hl : Ls.length = q.args.length) (hsz : (Ls.flatMap (·.1)).length ≤ 2000000) (hrow : ∀ f, f ∈ Ls → ∀ z, z ∈ f.1 → z.length = 4)
    (hF : ∀ (i : Nat) x y f, q.args[i]? = some x → a[i]? = some y → Ls[i]? = some f → ACallP Try.prog 27 [.agg (x.map .p), .agg (y.map .p)] (.tup [.p (.sl f.1), bD f.2])) :
    ACallP Try.prog 54 [patD q, valD k n t a] (.tup [.p (.sl (partsR Ls).1), bD (partsR Ls).2]) := by
  obtain ⟨A, hA⟩ : ∃ A, (k != 5) = A := ⟨_, rfl⟩
  obtain ⟨B, hB⟩ : ∃ B, (t.toList == q.text.toList) = B := ⟨_, rfl⟩
  obtain ⟨C, hC⟩ : ∃ C, ((a.length : Int) != (q.args.length : Int)) = C := ⟨_, rfl⟩
  have hal : a.length = q.args.length := by simp at h; omega
  rw [hA, hB, hC] at h
  obtain ⟨V, hV⟩ : ∃ V, V = partsR Ls := ⟨_, rfl⟩
  rw [← hV]
  refine acallp_fn [4, 5] Try.func54 rfl rfl Try.ntmps54 (by simp) fun R hR => ?_
  (refine awp_reg_seq [2, 3] fun K hK => ?_; (repeat' (first | ((first | refine al_r rfl fun K' hK' => ?_ | refine al_d rfl fun K' hK' => ?_ | refine al_t rfl rfl fun K' hK' => ?_); (repeat (first | (simp only [go_sem, simprocAttr]) | refine AS.mk ?_ | refine AAp.grow ?_)); (first | ((first | refine hK' _ _ ?_ | refine ⟨?_, hK' _ _ ?_⟩ | refine ⟨?_, ?_, hK' _ _ ?_⟩ | refine ⟨?_, ?_, ?_, hK' _ _ ?_⟩) <;> clear hK' K' <;> (first | (show alist _ _ _ _ _ _; skip) | (intro s hs; cases hs; done) | assumption | (simp; done) | omega | (simp; omega) | skip)))) | refine al_e rfl rfl ?_ | refine al_u rfl rfl ?_ | ((fail_if_success (refine al_t rfl rfl fun K' hK' => ?_)); refine al_s _ rfl rfl rfl (fun hb => ?_) (fun hb => ?_)))); all_goals (refine al_nil ?_; (simp only [go_sem, simprocAttr]); refine hK _ ?_; clear hK K))
  (refine awp_frz [2, 3] [] (by decide) (by simp) ?_; simp only [go_sem, simprocAttr])
  refine awp_seq_k fun K hK => ?_

  refine awp_reg_tov [2, 3, 29] [(29, bD false)] (h := ?_) (k := ?_)
  · cases A <;> cases B <;> cases C <;> first | (cases h; done) | skip
    all_goals ((repeat' (first | ((first | refine al_r rfl fun K' hK' => ?_ | refine al_d rfl fun K' hK' => ?_ | refine al_t rfl rfl fun K' hK' => ?_); (repeat (first | (simp only [go_sem, simprocAttr, hA, hB, hC]) | refine AS.mk ?_ | refine AAp.grow ?_)); (first | ((first | refine hK' _ _ ?_ | refine ⟨?_, hK' _ _ ?_⟩ | refine ⟨?_, ?_, hK' _ _ ?_⟩ | refine ⟨?_, ?_, ?_, hK' _ _ ?_⟩) <;> clear hK' K' <;> (first | (show alist _ _ _ _ _ _; skip) | (intro s hs; cases hs; done) | assumption | (simp; done) | omega | (simp; omega) | skip)))) | refine al_e rfl rfl ?_ | refine al_u rfl rfl ?_ | ((fail_if_success (refine al_t rfl rfl fun K' hK' => ?_)); refine al_s _ rfl rfl rfl (fun hb => ?_) (fun hb => ?_)))); all_goals (refine al_nil ?_; (first | (simp only [go_sem, simprocAttr, hA, hB, hC, *, Bool.and_true, Bool.and_false, Bool.true_and, Bool.false_and, Bool.or_true, Bool.true_or, Bool.or_false, Bool.false_or, Bool.not_true, Bool.not_false, Bool.false_eq_true]; done) | contradiction | (simp_all; done) | simp only [go_sem, simprocAttr, hA, hB, hC, *, Bool.and_true, Bool.and_false, Bool.true_and, Bool.false_and, Bool.or_true, Bool.true_or, Bool.or_false, Bool.false_or, Bool.not_true, Bool.not_false, Bool.false_eq_true])))
  (intro K hK; (simp only [go_sem, simprocAttr, hA, hB, hC]); refine hK _ ?_; clear hK K)
  refine awp_if (_) rfl (fun hc => ?_) (fun hc => ?_)
  · cases hc
  · refine awp_skip ?_
    refine hK _ ?_; clear hK K
    (refine awp_reg_seq [2, 3, 6] fun K hK => ?_; (repeat' (first | ((first | refine al_r rfl fun K' hK' => ?_ | refine al_d rfl fun K' hK' => ?_ | refine al_t rfl rfl fun K' hK' => ?_); (repeat (first | (simp only [go_sem, simprocAttr, hA, hB, hC]) | refine AS.mk ?_ | refine AAp.grow ?_)); (first | ((first | refine hK' _ _ ?_ | refine ⟨?_, hK' _ _ ?_⟩ | refine ⟨?_, ?_, hK' _ _ ?_⟩ | refine ⟨?_, ?_, ?_, hK' _ _ ?_⟩) <;> clear hK' K' <;> (first | (show alist _ _ _ _ _ _; skip) | (intro s hs; cases hs; done) | assumption | (simp; done) | omega | (simp; omega) | skip)))) | refine al_e rfl rfl ?_ | refine al_u rfl rfl ?_ | ((fail_if_success (refine al_t rfl rfl fun K' hK' => ?_)); refine al_s _ rfl rfl rfl (fun hb => ?_) (fun hb => ?_)))); all_goals (refine al_nil ?_; (simp only [go_sem, simprocAttr, hA, hB, hC]); refine hK _ ?_; clear hK K))
    refine awp_born 6 4 rfl ?_
    refine awp_seq_k fun K hK => ?_
    (refine awp_reg_seq [3, 6, 31, 32, 33] fun K hK => ?_; (repeat' (first | ((first | refine al_r rfl fun K' hK' => ?_ | refine al_d rfl fun K' hK' => ?_ | refine al_t rfl rfl fun K' hK' => ?_); (repeat (first | (simp only [go_sem, simprocAttr, hA, hB, hC]) | refine AS.mk ?_ | refine AAp.grow ?_)); (first | ((first | refine hK' _ _ ?_ | refine ⟨?_, hK' _ _ ?_⟩ | refine ⟨?_, ?_, hK' _ _ ?_⟩ | refine ⟨?_, ?_, ?_, hK' _ _ ?_⟩) <;> clear hK' K' <;> (first | (show alist _ _ _ _ _ _; skip) | (intro s hs; cases hs; done) | assumption | (simp; done) | omega | (simp; omega) | skip)))) | refine al_e rfl rfl ?_ | refine al_u rfl rfl ?_ | ((fail_if_success (refine al_t rfl rfl fun K' hK' => ?_)); refine al_s _ rfl rfl rfl (fun hb => ?_) (fun hb => ?_)))); all_goals (refine al_nil ?_; (simp only [go_sem, simprocAttr, hA, hB, hC]); refine hK _ ?_; clear hK K))
    refine awp_block ?_
    -- loop 0 head [3, 6, 31, 32, 33]
    refine awp_loop_cut (fun m s => ∃ i : Nat, i ≤ q.args.length ∧ m = q.args.length - i ∧ (Ls.take i).all (·.2) = true ∧ s = ⟨ofL [(3, .rd [.lit (.int .i64 k), .lit (.int .i64 n), .lit (.string t), .sl a] 0), (6, .ref 0 0 ((Ls.take i).flatMap (·.1)).length), (31, .p (.sl q.args)), (32, iD q.args.length), (33, iD i)], [.row 4 ((Ls.take i).flatMap (·.1))], 0⟩) ⟨_, 0, Nat.zero_le _, rfl, rfl, rfl⟩ ?_
    rintro m s ⟨i, hi, hm, hall, rfl⟩
    (refine awp_reg_seq [3, 6, 31, 32, 33, 34] fun K hK => ?_; (repeat' (first | ((first | refine al_r rfl fun K' hK' => ?_ | refine al_d rfl fun K' hK' => ?_ | refine al_t rfl rfl fun K' hK' => ?_); (repeat (first | (simp only [go_sem, simprocAttr, hA, hB, hC]) | refine AS.mk ?_ | refine AAp.grow ?_)); (first | ((first | refine hK' _ _ ?_ | refine ⟨?_, hK' _ _ ?_⟩ | refine ⟨?_, ?_, hK' _ _ ?_⟩ | refine ⟨?_, ?_, ?_, hK' _ _ ?_⟩) <;> clear hK' K' <;> (first | (show alist _ _ _ _ _ _; skip) | (intro s hs; cases hs; done) | assumption | (simp; done) | omega | (simp; omega) | skip)))) | refine al_e rfl rfl ?_ | refine al_u rfl rfl ?_ | ((fail_if_success (refine al_t rfl rfl fun K' hK' => ?_)); refine al_s _ rfl rfl rfl (fun hb => ?_) (fun hb => ?_)))); all_goals (refine al_nil ?_; (simp only [go_sem, simprocAttr, hA, hB, hC]); refine hK _ ?_; clear hK K))
    refine awp_seq_k fun K hK => ?_
    refine awp_if (decide ((i : Int) < (q.args.length : Int))) rfl (fun hc => ?_) (fun hc => ?_)
    · refine awp_skip ?_
      refine hK _ ?_; clear hK K
      refine awp_seq_k fun K hK => ?_
      refine awp_block ?_
      have hi2 : i < q.args.length := by simpa using hc
      obtain ⟨x, hget⟩ := get_of_lt hi2
      obtain ⟨y, hgeta⟩ := get_of_lt (l := a) (i := i) (by omega)
      obtain ⟨f, hgetf⟩ := get_of_lt (l := Ls) (i := i) (by omega)
      have hnn : (0 : Int) ≤ (i : Int) := Int.natCast_nonneg i
      have hnx : IntKind.i64.wrap ((i : Int) + 1) = ((i + 1 : Nat) : Int) := wrap_next hi2 hmax
      have hcall := hF i x y f hget hgeta hgetf
      obtain ⟨qq, rfl⟩ := hq x (List.mem_of_getElem? hget)
      obtain ⟨yk, yn, yt, ya, rfl⟩ := ha y (List.mem_of_getElem? hgeta)
      have hi3 : i < a.length := by omega
      have hfl := flat_len Ls (i + 1)
      rw [flat_succ hgetf, List.length_append] at hfl
      have hal2 := all_succ hgetf
      have hfs := flat_succ hgetf
      have hno := all_not hgetf
      have hz4 := hrow f (List.mem_of_getElem? hgetf)
      obtain ⟨f, fb⟩ := f
      simp only [Pat.row, List.map_cons, List.map_nil] at hcall hfl hal2 hfs hno hz4
      rw [hall, Bool.true_and] at hal2
      generalize hacc : (Ls.take i).flatMap (·.1) = acc at *
      have hta : List.take acc.length acc = acc := List.take_of_length_le (Nat.le_refl _)
      have hfi : (acc.length + f.length) * 56 ≤ 140737488355328 := by omega

      (refine awp_reg_seq [3, 6, 7, 8, 31, 32, 33] fun K hK => ?_; (repeat' (first | ((first | refine al_r rfl fun K' hK' => ?_ | refine al_d rfl fun K' hK' => ?_ | refine al_t rfl rfl fun K' hK' => ?_); (repeat (first | (simp only [go_sem, simprocAttr, hget, hgeta, hnn, hi2, hi3, hnx, hta, hfi, Int.toNat_natCast, Pat.row, List.drop_zero]) | refine AS.mk ?_ | refine AAp.grow ?_)); (first | ((first | refine hK' _ _ ?_ | refine ⟨?_, hK' _ _ ?_⟩ | refine ⟨?_, ?_, hK' _ _ ?_⟩ | refine ⟨?_, ?_, ?_, hK' _ _ ?_⟩) <;> clear hK' K' <;> (first | (show alist _ _ _ _ _ _; skip) | (intro s hs; cases hs; done) | assumption | (simp; done) | omega | (simp; omega) | skip)))) | refine al_e rfl rfl ?_ | refine al_u rfl rfl ?_ | ((fail_if_success (refine al_t rfl rfl fun K' hK' => ?_)); refine al_s _ rfl rfl rfl (fun hb => ?_) (fun hb => ?_)))); all_goals (refine al_nil ?_; (simp only [go_sem, simprocAttr, hget, hgeta, hnn, hi2, hi3, hnx, hta, hfi, Int.toNat_natCast, Pat.row, List.drop_zero]); refine hK _ ?_; clear hK K))
      (refine awp_frz [3, 6, 7, 8, 31, 32, 33] [0] (by decide) (by simp) ?_; simp only [go_sem, simprocAttr, hget, hgeta, hnn, hi2, hi3, hnx, hta, hfi, Int.toNat_natCast, Pat.row, List.drop_zero])
      refine awp_draw_seq (by kernel_rfl) [3, 6, 9, 10, 31, 32, 33] fun K hK => ?_
      (first | (first | refine ah_r 0 rfl (by kernel_rfl) rfl fun K' hK' => ?_ | refine ah_t 0 rfl (by kernel_rfl) rfl rfl fun K' hK' => ?_); (simp only [go_sem, simprocAttr, hget, hgeta, hnn, hi2, hi3, hnx, hta, hfi, Int.toNat_natCast, Pat.row, List.drop_zero]); (first | (refine hK' _ ?_); clear hK' K' | ((first | refine ⟨?_, hK' _ ?_⟩ | refine ⟨?_, ?_, hK' _ ?_⟩) <;> clear hK' K' <;> (first | (show alist _ _ _ _ _ _; skip) | (intro s hs; cases hs; done) | assumption | (simp; done) | omega | (simp; omega) | skip))) | refine ah_e 0 rfl (by kernel_rfl) rfl rfl ?_ | refine ah_u 0 rfl (by kernel_rfl) rfl rfl ?_)
      (first | (first | refine ah_r 1 rfl (by kernel_rfl) rfl fun K' hK' => ?_ | refine ah_t 1 rfl (by kernel_rfl) rfl rfl fun K' hK' => ?_); (simp only [go_sem, simprocAttr, hget, hgeta, hnn, hi2, hi3, hnx, hta, hfi, Int.toNat_natCast, Pat.row, List.drop_zero]); (first | (refine hK' _ ?_); clear hK' K' | ((first | refine ⟨?_, hK' _ ?_⟩ | refine ⟨?_, ?_, hK' _ ?_⟩) <;> clear hK' K' <;> (first | (show alist _ _ _ _ _ _; skip) | (intro s hs; cases hs; done) | assumption | (simp; done) | omega | (simp; omega) | skip))) | refine ah_e 1 rfl (by kernel_rfl) rfl rfl ?_ | refine ah_u 1 rfl (by kernel_rfl) rfl rfl ?_)
      (first | (first | refine ah_r 2 rfl (by kernel_rfl) rfl fun K' hK' => ?_ | refine ah_t 2 rfl (by kernel_rfl) rfl rfl fun K' hK' => ?_); (simp only [go_sem, simprocAttr, hget, hgeta, hnn, hi2, hi3, hnx, hta, hfi, Int.toNat_natCast, Pat.row, List.drop_zero]); (first | (refine hK' _ ?_); clear hK' K' | ((first | refine ⟨?_, hK' _ ?_⟩ | refine ⟨?_, ?_, hK' _ ?_⟩) <;> clear hK' K' <;> (first | (show alist _ _ _ _ _ _; skip) | (intro s hs; cases hs; done) | assumption | (simp; done) | omega | (simp; omega) | skip))) | refine ah_e 2 rfl (by kernel_rfl) rfl rfl ?_ | refine ah_u 2 rfl (by kernel_rfl) rfl rfl ?_)
      (first | (first | refine ah_r 3 rfl (by kernel_rfl) rfl fun K' hK' => ?_ | refine ah_t 3 rfl (by kernel_rfl) rfl rfl fun K' hK' => ?_); (simp only [go_sem, simprocAttr, hget, hgeta, hnn, hi2, hi3, hnx, hta, hfi, Int.toNat_natCast, Pat.row, List.drop_zero]); (first | (refine hK' _ ?_); clear hK' K' | ((first | refine ⟨?_, hK' _ ?_⟩ | refine ⟨?_, ?_, hK' _ ?_⟩) <;> clear hK' K' <;> (first | (show alist _ _ _ _ _ _; skip) | (intro s hs; cases hs; done) | assumption | (simp; done) | omega | (simp; omega) | skip))) | refine ah_e 3 rfl (by kernel_rfl) rfl rfl ?_ | refine ah_u 3 rfl (by kernel_rfl) rfl rfl ?_)
      (first | (first | refine ah_r 4 rfl (by kernel_rfl) rfl fun K' hK' => ?_ | refine ah_t 4 rfl (by kernel_rfl) rfl rfl fun K' hK' => ?_); (simp only [go_sem, simprocAttr, hget, hgeta, hnn, hi2, hi3, hnx, hta, hfi, Int.toNat_natCast, Pat.row, List.drop_zero]); (first | (refine hK' _ ?_); clear hK' K' | ((first | refine ⟨?_, hK' _ ?_⟩ | refine ⟨?_, ?_, hK' _ ?_⟩) <;> clear hK' K' <;> (first | (show alist _ _ _ _ _ _; skip) | (intro s hs; cases hs; done) | assumption | (simp; done) | omega | (simp; omega) | skip))) | refine ah_e 4 rfl (by kernel_rfl) rfl rfl ?_ | refine ah_u 4 rfl (by kernel_rfl) rfl rfl ?_)
      (first | (first | refine ah_r 5 rfl (by kernel_rfl) rfl fun K' hK' => ?_ | refine ah_t 5 rfl (by kernel_rfl) rfl rfl fun K' hK' => ?_); (simp only [go_sem, simprocAttr, hget, hgeta, hnn, hi2, hi3, hnx, hta, hfi, Int.toNat_natCast, Pat.row, List.drop_zero]); (first | (refine hK' _ ?_); clear hK' K' | ((first | refine ⟨?_, hK' _ ?_⟩ | refine ⟨?_, ?_, hK' _ ?_⟩) <;> clear hK' K' <;> (first | (show alist _ _ _ _ _ _; skip) | (intro s hs; cases hs; done) | assumption | (simp; done) | omega | (simp; omega) | skip))) | refine ah_e 5 rfl (by kernel_rfl) rfl rfl ?_ | refine ah_u 5 rfl (by kernel_rfl) rfl rfl ?_)
      (refine ah_one 6 rfl (by kernel_rfl) ?_; (repeat' (first | ((first | refine al_r rfl fun K' hK' => ?_ | refine al_d rfl fun K' hK' => ?_ | refine al_t rfl rfl fun K' hK' => ?_); (repeat (first | (simp only [go_sem, simprocAttr, hget, hgeta, hnn, hi2, hi3, hnx, hta, hfi, Int.toNat_natCast, Pat.row, List.drop_zero]) | refine AS.mk ?_ | refine AAp.grow ?_)); (first | ((first | refine hK' _ _ ?_ | refine ⟨?_, hK' _ _ ?_⟩ | refine ⟨?_, ?_, hK' _ _ ?_⟩ | refine ⟨?_, ?_, ?_, hK' _ _ ?_⟩) <;> clear hK' K' <;> (first | (show alist _ _ _ _ _ _; skip) | (intro s hs; cases hs; done) | assumption | (simp; done) | omega | (simp; omega) | skip)) | ((show AC _ _ (D.fn 27 _) _ _); refine acall_p (f := 27) (e := rfl) (hr := rfl) (k := hK' _ _ ?_) (hc := Try.call27) (h := hcall); clear hK' K'))) | refine al_e rfl rfl ?_ | refine al_u rfl rfl ?_ | ((fail_if_success (refine al_t rfl rfl fun K' hK' => ?_)); refine al_s _ rfl rfl rfl (fun hb => ?_) (fun hb => ?_)))); all_goals refine al_nil ?_)
      (first | (first | refine ah_r 7 rfl (by kernel_rfl) rfl fun K' hK' => ?_ | refine ah_t 7 rfl (by kernel_rfl) rfl rfl fun K' hK' => ?_); (simp only [go_sem, simprocAttr, hget, hgeta, hnn, hi2, hi3, hnx, hta, hfi, Int.toNat_natCast, Pat.row, List.drop_zero]); (first | (refine hK' _ ?_); clear hK' K' | ((first | refine ⟨?_, hK' _ ?_⟩ | refine ⟨?_, ?_, hK' _ ?_⟩) <;> clear hK' K' <;> (first | (show alist _ _ _ _ _ _; skip) | (intro s hs; cases hs; done) | assumption | (simp; done) | omega | (simp; omega) | skip))) | refine ah_e 7 rfl (by kernel_rfl) rfl rfl ?_ | refine ah_u 7 rfl (by kernel_rfl) rfl rfl ?_)
      (first | (first | refine ah_r 8 rfl (by kernel_rfl) rfl fun K' hK' => ?_ | refine ah_t 8 rfl (by kernel_rfl) rfl rfl fun K' hK' => ?_); (simp only [go_sem, simprocAttr, hget, hgeta, hnn, hi2, hi3, hnx, hta, hfi, Int.toNat_natCast, Pat.row, List.drop_zero]); (first | (refine hK' _ ?_); clear hK' K' | ((first | refine ⟨?_, hK' _ ?_⟩ | refine ⟨?_, ?_, hK' _ ?_⟩) <;> clear hK' K' <;> (first | (show alist _ _ _ _ _ _; skip) | (intro s hs; cases hs; done) | assumption | (simp; done) | omega | (simp; omega) | skip))) | refine ah_e 8 rfl (by kernel_rfl) rfl rfl ?_ | refine ah_u 8 rfl (by kernel_rfl) rfl rfl ?_)
      (first | (first | refine ah_r 9 rfl (by kernel_rfl) rfl fun K' hK' => ?_ | refine ah_t 9 rfl (by kernel_rfl) rfl rfl fun K' hK' => ?_); (simp only [go_sem, simprocAttr, hget, hgeta, hnn, hi2, hi3, hnx, hta, hfi, Int.toNat_natCast, Pat.row, List.drop_zero]); (first | (refine hK' _ ?_); clear hK' K' | ((first | refine ⟨?_, hK' _ ?_⟩ | refine ⟨?_, ?_, hK' _ ?_⟩) <;> clear hK' K' <;> (first | (show alist _ _ _ _ _ _; skip) | (intro s hs; cases hs; done) | assumption | (simp; done) | omega | (simp; omega) | skip))) | refine ah_e 9 rfl (by kernel_rfl) rfl rfl ?_ | refine ah_u 9 rfl (by kernel_rfl) rfl rfl ?_)
      (first | (first | refine ah_r 10 rfl (by kernel_rfl) rfl fun K' hK' => ?_ | refine ah_t 10 rfl (by kernel_rfl) rfl rfl fun K' hK' => ?_); (simp only [go_sem, simprocAttr, hget, hgeta, hnn, hi2, hi3, hnx, hta, hfi, Int.toNat_natCast, Pat.row, List.drop_zero]); (first | (refine hK' _ ?_); clear hK' K' | ((first | refine ⟨?_, hK' _ ?_⟩ | refine ⟨?_, ?_, hK' _ ?_⟩) <;> clear hK' K' <;> (first | (show alist _ _ _ _ _ _; skip) | (intro s hs; cases hs; done) | assumption | (simp; done) | omega | (simp; omega) | skip))) | refine ah_e 10 rfl (by kernel_rfl) rfl rfl ?_ | refine ah_u 10 rfl (by kernel_rfl) rfl rfl ?_)
      (first | (first | refine ah_r 11 rfl (by kernel_rfl) rfl fun K' hK' => ?_ | refine ah_t 11 rfl (by kernel_rfl) rfl rfl fun K' hK' => ?_); (simp only [go_sem, simprocAttr, hget, hgeta, hnn, hi2, hi3, hnx, hta, hfi, Int.toNat_natCast, Pat.row, List.drop_zero]); (first | (refine hK' _ ?_); clear hK' K' | ((first | refine ⟨?_, hK' _ ?_⟩ | refine ⟨?_, ?_, hK' _ ?_⟩) <;> clear hK' K' <;> (first | (show alist _ _ _ _ _ _; skip) | (intro s hs; cases hs; done) | assumption | (simp; done) | omega | (simp; omega) | skip))) | refine ah_e 11 rfl (by kernel_rfl) rfl rfl ?_ | refine ah_u 11 rfl (by kernel_rfl) rfl rfl ?_)
      (refine ah_done (by kernel_rfl) ?_; (simp only [go_sem, simprocAttr, hget, hgeta, hnn, hi2, hi3, hnx, hta, hfi, Int.toNat_natCast, Pat.row, List.drop_zero]); refine hK _ ?_; clear hK K)
      refine awp_seq_k fun K hK => ?_
      (refine awp_reg_seq [3, 6, 9, 31, 32, 33, 49] fun K hK => ?_; (repeat' (first | ((first | refine al_r rfl fun K' hK' => ?_ | refine al_d rfl fun K' hK' => ?_ | refine al_t rfl rfl fun K' hK' => ?_); (repeat (first | (simp only [go_sem, simprocAttr, hget, hgeta, hnn, hi2, hi3, hnx, hta, hfi, Int.toNat_natCast, Pat.row, List.drop_zero]) | refine AS.mk ?_ | refine AAp.grow ?_)); (first | ((first | refine hK' _ _ ?_ | refine ⟨?_, hK' _ _ ?_⟩ | refine ⟨?_, ?_, hK' _ _ ?_⟩ | refine ⟨?_, ?_, ?_, hK' _ _ ?_⟩) <;> clear hK' K' <;> (first | (show alist _ _ _ _ _ _; skip) | (intro s hs; cases hs; done) | assumption | (simp; done) | omega | (simp; omega) | skip)))) | refine al_e rfl rfl ?_ | refine al_u rfl rfl ?_ | ((fail_if_success (refine al_t rfl rfl fun K' hK' => ?_)); refine al_s _ rfl rfl rfl (fun hb => ?_) (fun hb => ?_)))); all_goals (refine al_nil ?_; (simp only [go_sem, simprocAttr, hget, hgeta, hnn, hi2, hi3, hnx, hta, hfi, Int.toNat_natCast, Pat.row, List.drop_zero]); refine hK _ ?_; clear hK K))
      refine awp_if (_) rfl (fun hc => ?_) (fun hc => ?_)
      · (refine awp_reg_seq [4, 5] fun K hK => ?_; (repeat' (first | ((first | refine al_r rfl fun K' hK' => ?_ | refine al_d rfl fun K' hK' => ?_ | refine al_t rfl rfl fun K' hK' => ?_); (repeat (first | (simp only [go_sem, simprocAttr, hget, hgeta, hnn, hi2, hi3, hnx, hta, hfi, Int.toNat_natCast, Pat.row, List.drop_zero]) | refine AS.mk ?_ | refine AAp.grow ?_)); (first | ((first | refine hK' _ _ ?_ | refine ⟨?_, hK' _ _ ?_⟩ | refine ⟨?_, ?_, hK' _ _ ?_⟩ | refine ⟨?_, ?_, ?_, hK' _ _ ?_⟩) <;> clear hK' K' <;> (first | (show alist _ _ _ _ _ _; skip) | (intro s hs; cases hs; done) | assumption | (simp; done) | omega | (simp; omega) | skip)))) | refine al_e rfl rfl ?_ | refine al_u rfl rfl ?_ | ((fail_if_success (refine al_t rfl rfl fun K' hK' => ?_)); refine al_s _ rfl rfl rfl (fun hb => ?_) (fun hb => ?_)))); all_goals (refine al_nil ?_; (simp only [go_sem, simprocAttr, hget, hgeta, hnn, hi2, hi3, hnx, hta, hfi, Int.toNat_natCast, Pat.row, List.drop_zero]); refine hK _ ?_; clear hK K))
        refine awp_ret ?_; (first | refine hR _ _ (.inl rfl) rfl ?_ | refine hR _ _ (.inl rfl) rfl ?_ ?_)
        rw [hV, hno (by simpa using hc)]
        simp only [go_sem, simprocAttr, hget, hgeta, hnn, hi2, hi3, hnx, hta, hfi, Int.toNat_natCast, Pat.row, List.drop_zero]
      · refine awp_skip ?_
        refine hK _ ?_; clear hK K
        (refine awp_reg_end [3, 6, 31, 32, 33] fun K hK => ?_; (repeat' (first | ((first | refine al_r rfl fun K' hK' => ?_ | refine al_d rfl fun K' hK' => ?_ | refine al_t rfl rfl fun K' hK' => ?_); (repeat (first | (simp only [go_sem, simprocAttr, hget, hgeta, hnn, hi2, hi3, hnx, hta, hfi, Int.toNat_natCast, Pat.row, List.drop_zero]) | refine AS.mk ?_ | refine AAp.grow ?_)); (first | ((first | refine hK' _ _ ?_ | refine ⟨?_, hK' _ _ ?_⟩ | refine ⟨?_, ?_, hK' _ _ ?_⟩ | refine ⟨?_, ?_, ?_, hK' _ _ ?_⟩) <;> clear hK' K' <;> (first | (show alist _ _ _ _ _ _; skip) | (intro s hs; cases hs; done) | assumption | (simp; done) | omega | (simp; omega) | skip)))) | refine al_e rfl rfl ?_ | refine al_u rfl rfl ?_ | ((fail_if_success (refine al_t rfl rfl fun K' hK' => ?_)); refine al_s _ rfl rfl rfl (fun hb => ?_) (fun hb => ?_)))); all_goals (refine al_nil ?_; (simp only [go_sem, simprocAttr, hget, hgeta, hnn, hi2, hi3, hnx, hta, hfi, Int.toNat_natCast, Pat.row, List.drop_zero]); refine hK _ ?_; clear hK K))
        refine hK _ ?_; clear hK K
        (refine awp_reg_end [3, 6, 31, 32, 33] fun K hK => ?_; (repeat' (first | ((first | refine al_r rfl fun K' hK' => ?_ | refine al_d rfl fun K' hK' => ?_ | refine al_t rfl rfl fun K' hK' => ?_); (repeat (first | (simp only [go_sem, simprocAttr, hget, hgeta, hnn, hi2, hi3, hnx, hta, hfi, Int.toNat_natCast, Pat.row, List.drop_zero]) | refine AS.mk ?_ | refine AAp.grow ?_)); (first | ((first | refine hK' _ _ ?_ | refine ⟨?_, hK' _ _ ?_⟩ | refine ⟨?_, ?_, hK' _ _ ?_⟩ | refine ⟨?_, ?_, ?_, hK' _ _ ?_⟩) <;> clear hK' K' <;> (first | (show alist _ _ _ _ _ _; skip) | (intro s hs; cases hs; done) | assumption | (simp; done) | omega | (simp; omega) | skip)))) | refine al_e rfl rfl ?_ | refine al_u rfl rfl ?_ | ((fail_if_success (refine al_t rfl rfl fun K' hK' => ?_)); refine al_s _ rfl rfl rfl (fun hb => ?_) (fun hb => ?_)))); all_goals (refine al_nil ?_; (simp only [go_sem, simprocAttr, hget, hgeta, hnn, hi2, hi3, hnx, hta, hfi, Int.toNat_natCast, Pat.row, List.drop_zero]); refine hK _ ?_; clear hK K))
        refine ⟨q.args.length - (i + 1), by omega, [3, 6, 31, 32, 33], [1], by decide, by intro q hq; exact absurd hq (Nat.not_lt_zero q), i + 1, hi2, rfl, by rw [hal2]; simpa using hc, ?_⟩
        rw [hfs, List.length_append]
        simp only [go_sem, simprocAttr, hget, hgeta, hnn, hi2, hi3, hnx, hta, hfi, Int.toNat_natCast, Pat.row, List.drop_zero]

    · have hie : i = Ls.length := by simp at hc; omega
      rw [hie, List.take_length] at hall ⊢
      have hVV : V = (Ls.flatMap (·.1), true) := by rw [hV]; unfold partsR; rw [if_pos hall]
      have htk : List.take (Ls.flatMap (·.1)).length (Ls.flatMap (·.1)) = Ls.flatMap (·.1) := List.take_of_length_le (Nat.le_refl _)
      refine awp_exit ?_
      clear hK
      refine hK _ ?_; clear hK K
      (refine awp_reg_seq [4, 5] fun K hK => ?_; (repeat' (first | ((first | refine al_r rfl fun K' hK' => ?_ | refine al_d rfl fun K' hK' => ?_ | refine al_t rfl rfl fun K' hK' => ?_); (repeat (first | (simp only [go_sem, simprocAttr]) | refine AS.mk ?_ | refine AAp.grow ?_)); (first | ((first | refine hK' _ _ ?_ | refine ⟨?_, hK' _ _ ?_⟩ | refine ⟨?_, ?_, hK' _ _ ?_⟩ | refine ⟨?_, ?_, ?_, hK' _ _ ?_⟩) <;> clear hK' K' <;> (first | (show alist _ _ _ _ _ _; skip) | (intro s hs; cases hs; done) | assumption | (simp; done) | omega | (simp; omega) | skip)))) | refine al_e rfl rfl ?_ | refine al_u rfl rfl ?_ | ((fail_if_success (refine al_t rfl rfl fun K' hK' => ?_)); refine al_s _ rfl rfl rfl (fun hb => ?_) (fun hb => ?_)))); all_goals (refine al_nil ?_; (simp only [go_sem, simprocAttr]); refine hK _ ?_; clear hK K))
      refine awp_ret ?_; (first | refine hR _ _ (.inl rfl) rfl ?_ | refine hR _ _ (.inl rfl) rfl ?_ ?_)
      rw [hVV]
      simp only [go_sem, simprocAttr, htk]
end Go.Proofs.Ytofbhmcmejhepaa.P
/- Does a value fit a pattern: a contract. -/
namespace Go.Proofs.Ytofbhmcmejhepaa.P
open Go.Ab Go.Proofs.Ytofbhmcmejhepaa.T

/-- What Fits answers, out of what parts answers. -/
def fitS (q : Pat) (k n : Int) (t : ByteArray) (a : List (List PV)) (P : Found) : Found :=
  cond (q.kind == 1) ([], true) (cond (q.kind == 2) ([[.lit (.int .i64 k), .lit (.int .i64 n), .lit (.string t), .sl a]], true)
    (cond (q.kind == 3) ([], k == 2 && n == q.num) (cond (q.kind == 4) ([], k == 3 && n == q.num) (cond (q.kind == 5) ([], k == 4 && t.toList == q.text.toList) (cond (q.kind == 6) P ([], false))))))


theorem fitsAt (q : Pat) (k n : Int) (t : ByteArray) (a : List (List PV)) (P : Found) (hown : ACallP Try.prog 53 [valD k n t a] (valD k n t a))
    (hp6 : q.kind = 6 → ACallP Try.prog 54 [patD q, valD k n t a] (.tup [.p (.sl P.1), bD P.2])) :
    ACallP Try.prog 27 [patD q, valD k n t a] (.tup [.p (.sl (fitS q k n t a P).1), bD (fitS q k n t a P).2]) := by
  obtain ⟨V, hV⟩ : ∃ V, V = fitS q k n t a P := ⟨_, rfl⟩
  rw [← hV]
  unfold fitS at hV
  refine acallp_fn [4, 5] Try.func27 rfl rfl Try.ntmps27 (by simp) fun R hR => ?_
  (refine awp_reg_seq [2, 3] fun K hK => ?_; (repeat' (first | ((first | refine al_r rfl fun K' hK' => ?_ | refine al_d rfl fun K' hK' => ?_ | refine al_t rfl rfl fun K' hK' => ?_); (repeat (first | (simp only [go_sem, simprocAttr]) | refine AS.mk ?_ | refine AAp.grow ?_)); (first | ((first | refine hK' _ _ ?_ | refine ⟨?_, hK' _ _ ?_⟩ | refine ⟨?_, ?_, hK' _ _ ?_⟩ | refine ⟨?_, ?_, ?_, hK' _ _ ?_⟩) <;> clear hK' K' <;> (first | (show alist _ _ _ _ _ _; skip) | (intro s hs; cases hs; done) | assumption | (simp; done) | omega | (simp; omega) | skip)))) | refine al_e rfl rfl ?_ | refine al_u rfl rfl ?_ | ((fail_if_success (refine al_t rfl rfl fun K' hK' => ?_)); refine al_s _ rfl rfl rfl (fun hb => ?_) (fun hb => ?_)))); all_goals (refine al_nil ?_; (simp only [go_sem, simprocAttr]); refine hK _ ?_; clear hK K))
  (refine awp_frz [2, 3] [] (by decide) (by simp) ?_; simp only [go_sem, simprocAttr])
  refine awp_seq_k fun K hK => ?_
  (refine awp_reg_seq [2, 3, 7] fun K hK => ?_; (repeat' (first | ((first | refine al_r rfl fun K' hK' => ?_ | refine al_d rfl fun K' hK' => ?_ | refine al_t rfl rfl fun K' hK' => ?_); (repeat (first | (simp only [go_sem, simprocAttr]) | refine AS.mk ?_ | refine AAp.grow ?_)); (first | ((first | refine hK' _ _ ?_ | refine ⟨?_, hK' _ _ ?_⟩ | refine ⟨?_, ?_, hK' _ _ ?_⟩ | refine ⟨?_, ?_, ?_, hK' _ _ ?_⟩) <;> clear hK' K' <;> (first | (show alist _ _ _ _ _ _; skip) | (intro s hs; cases hs; done) | assumption | (simp; done) | omega | (simp; omega) | skip)))) | refine al_e rfl rfl ?_ | refine al_u rfl rfl ?_ | ((fail_if_success (refine al_t rfl rfl fun K' hK' => ?_)); refine al_s _ rfl rfl rfl (fun hb => ?_) (fun hb => ?_)))); all_goals (refine al_nil ?_; (simp only [go_sem, simprocAttr]); refine hK _ ?_; clear hK K))
  refine awp_block ?_
  (refine awp_reg_seq [2, 3, 7, 8] fun K hK => ?_; (repeat' (first | ((first | refine al_r rfl fun K' hK' => ?_ | refine al_d rfl fun K' hK' => ?_ | refine al_t rfl rfl fun K' hK' => ?_); (repeat (first | (simp only [go_sem, simprocAttr]) | refine AS.mk ?_ | refine AAp.grow ?_)); (first | ((first | refine hK' _ _ ?_ | refine ⟨?_, hK' _ _ ?_⟩ | refine ⟨?_, ?_, hK' _ _ ?_⟩ | refine ⟨?_, ?_, ?_, hK' _ _ ?_⟩) <;> clear hK' K' <;> (first | (show alist _ _ _ _ _ _; skip) | (intro s hs; cases hs; done) | assumption | (simp; done) | omega | (simp; omega) | skip)))) | refine al_e rfl rfl ?_ | refine al_u rfl rfl ?_ | ((fail_if_success (refine al_t rfl rfl fun K' hK' => ?_)); refine al_s _ rfl rfl rfl (fun hb => ?_) (fun hb => ?_)))); all_goals (refine al_nil ?_; (simp only [go_sem, simprocAttr]); refine hK _ ?_; clear hK K))
  refine awp_if (q.kind == 1) rfl (fun hc => ?_) (fun hc => ?_)
  · rw [hc] at hV
    (refine awp_reg_seq [4, 5] fun K hK => ?_; (repeat' (first | ((first | refine al_r rfl fun K' hK' => ?_ | refine al_d rfl fun K' hK' => ?_ | refine al_t rfl rfl fun K' hK' => ?_); (repeat (first | (simp only [go_sem, simprocAttr]) | refine AS.mk ?_ | refine AAp.grow ?_)); (first | ((first | refine hK' _ _ ?_ | refine ⟨?_, hK' _ _ ?_⟩ | refine ⟨?_, ?_, hK' _ _ ?_⟩ | refine ⟨?_, ?_, ?_, hK' _ _ ?_⟩) <;> clear hK' K' <;> (first | (show alist _ _ _ _ _ _; skip) | (intro s hs; cases hs; done) | assumption | (simp; done) | omega | (simp; omega) | skip)))) | refine al_e rfl rfl ?_ | refine al_u rfl rfl ?_ | ((fail_if_success (refine al_t rfl rfl fun K' hK' => ?_)); refine al_s _ rfl rfl rfl (fun hb => ?_) (fun hb => ?_)))); all_goals (refine al_nil ?_; (simp only [go_sem, simprocAttr]); refine hK _ ?_; clear hK K))
    refine awp_ret ?_; (first | refine hR _ _ (.inl rfl) rfl ?_ | refine hR _ _ (.inl rfl) rfl ?_ ?_)
    rw [hV]
    simp only [go_sem, simprocAttr, cond_true]
  · rw [hc] at hV
    (refine awp_reg_seq [2, 3, 7, 10] fun K hK => ?_; (repeat' (first | ((first | refine al_r rfl fun K' hK' => ?_ | refine al_d rfl fun K' hK' => ?_ | refine al_t rfl rfl fun K' hK' => ?_); (repeat (first | (simp only [go_sem, simprocAttr]) | refine AS.mk ?_ | refine AAp.grow ?_)); (first | ((first | refine hK' _ _ ?_ | refine ⟨?_, hK' _ _ ?_⟩ | refine ⟨?_, ?_, hK' _ _ ?_⟩ | refine ⟨?_, ?_, ?_, hK' _ _ ?_⟩) <;> clear hK' K' <;> (first | (show alist _ _ _ _ _ _; skip) | (intro s hs; cases hs; done) | assumption | (simp; done) | omega | (simp; omega) | skip)))) | refine al_e rfl rfl ?_ | refine al_u rfl rfl ?_ | ((fail_if_success (refine al_t rfl rfl fun K' hK' => ?_)); refine al_s _ rfl rfl rfl (fun hb => ?_) (fun hb => ?_)))); all_goals (refine al_nil ?_; (simp only [go_sem, simprocAttr]); refine hK _ ?_; clear hK K))
    refine awp_if (q.kind == 2) rfl (fun hc => ?_) (fun hc => ?_)
    · rw [hc] at hV
      (refine awp_reg_seq [4, 5] fun K hK => ?_; (repeat' (first | ((first | refine al_r rfl fun K' hK' => ?_ | refine al_d rfl fun K' hK' => ?_ | refine al_t rfl rfl fun K' hK' => ?_); (repeat (first | (simp only [go_sem, simprocAttr]) | refine AS.mk ?_ | refine AAp.grow ?_)); (first | ((first | refine hK' _ _ ?_ | refine ⟨?_, hK' _ _ ?_⟩ | refine ⟨?_, ?_, hK' _ _ ?_⟩ | refine ⟨?_, ?_, ?_, hK' _ _ ?_⟩) <;> clear hK' K' <;> (first | (show alist _ _ _ _ _ _; skip) | (intro s hs; cases hs; done) | assumption | (simp; done) | omega | (simp; omega) | skip)) | ((show AC _ _ (D.fn 53 _) _ _); refine acall_p (f := 53) (e := rfl) (hr := rfl) (k := hK' _ _ ?_) (hc := Try.call53) (h := hown); clear hK' K'))) | refine al_e rfl rfl ?_ | refine al_u rfl rfl ?_ | ((fail_if_success (refine al_t rfl rfl fun K' hK' => ?_)); refine al_s _ rfl rfl rfl (fun hb => ?_) (fun hb => ?_)))); all_goals (refine al_nil ?_; (simp only [go_sem, simprocAttr]); refine hK _ ?_; clear hK K))
      refine awp_ret ?_; (first | refine hR _ _ (.inl rfl) rfl ?_ | refine hR _ _ (.inl rfl) rfl ?_ ?_)
      rw [hV]
      simp only [go_sem, simprocAttr, cond_true, cond_false]
    · rw [hc] at hV
      (refine awp_reg_seq [2, 3, 7, 15] fun K hK => ?_; (repeat' (first | ((first | refine al_r rfl fun K' hK' => ?_ | refine al_d rfl fun K' hK' => ?_ | refine al_t rfl rfl fun K' hK' => ?_); (repeat (first | (simp only [go_sem, simprocAttr]) | refine AS.mk ?_ | refine AAp.grow ?_)); (first | ((first | refine hK' _ _ ?_ | refine ⟨?_, hK' _ _ ?_⟩ | refine ⟨?_, ?_, hK' _ _ ?_⟩ | refine ⟨?_, ?_, ?_, hK' _ _ ?_⟩) <;> clear hK' K' <;> (first | (show alist _ _ _ _ _ _; skip) | (intro s hs; cases hs; done) | assumption | (simp; done) | omega | (simp; omega) | skip)))) | refine al_e rfl rfl ?_ | refine al_u rfl rfl ?_ | ((fail_if_success (refine al_t rfl rfl fun K' hK' => ?_)); refine al_s _ rfl rfl rfl (fun hb => ?_) (fun hb => ?_)))); all_goals (refine al_nil ?_; (simp only [go_sem, simprocAttr]); refine hK _ ?_; clear hK K))
      refine awp_if (q.kind == 3) rfl (fun hc => ?_) (fun hc => ?_)
      · rw [hc] at hV
        refine awp_draw_seq (by kernel_rfl) [4, 5] fun K hK => ?_
        (first | (first | refine ah_r 0 rfl (by kernel_rfl) rfl fun K' hK' => ?_ | refine ah_t 0 rfl (by kernel_rfl) rfl rfl fun K' hK' => ?_); (simp only [go_sem, simprocAttr]); (first | (refine hK' _ ?_); clear hK' K' | ((first | refine ⟨?_, hK' _ ?_⟩ | refine ⟨?_, ?_, hK' _ ?_⟩) <;> clear hK' K' <;> (first | (show alist _ _ _ _ _ _; skip) | (intro s hs; cases hs; done) | assumption | (simp; done) | omega | (simp; omega) | skip))) | refine ah_e 0 rfl (by kernel_rfl) rfl rfl ?_ | refine ah_u 0 rfl (by kernel_rfl) rfl rfl ?_)
        (first | (first | refine ah_r 1 rfl (by kernel_rfl) rfl fun K' hK' => ?_ | refine ah_t 1 rfl (by kernel_rfl) rfl rfl fun K' hK' => ?_); (simp only [go_sem, simprocAttr]); (first | (refine hK' _ ?_); clear hK' K' | ((first | refine ⟨?_, hK' _ ?_⟩ | refine ⟨?_, ?_, hK' _ ?_⟩) <;> clear hK' K' <;> (first | (show alist _ _ _ _ _ _; skip) | (intro s hs; cases hs; done) | assumption | (simp; done) | omega | (simp; omega) | skip))) | refine ah_e 1 rfl (by kernel_rfl) rfl rfl ?_ | refine ah_u 1 rfl (by kernel_rfl) rfl rfl ?_)
        (first | (first | refine ah_r 2 rfl (by kernel_rfl) rfl fun K' hK' => ?_ | refine ah_t 2 rfl (by kernel_rfl) rfl rfl fun K' hK' => ?_); (simp only [go_sem, simprocAttr]); (first | (refine hK' _ ?_); clear hK' K' | ((first | refine ⟨?_, hK' _ ?_⟩ | refine ⟨?_, ?_, hK' _ ?_⟩) <;> clear hK' K' <;> (first | (show alist _ _ _ _ _ _; skip) | (intro s hs; cases hs; done) | assumption | (simp; done) | omega | (simp; omega) | skip))) | refine ah_e 2 rfl (by kernel_rfl) rfl rfl ?_ | refine ah_u 2 rfl (by kernel_rfl) rfl rfl ?_)
        (first | (first | refine ah_r 3 rfl (by kernel_rfl) rfl fun K' hK' => ?_ | refine ah_t 3 rfl (by kernel_rfl) rfl rfl fun K' hK' => ?_); (simp only [go_sem, simprocAttr]); (first | (refine hK' _ ?_); clear hK' K' | ((first | refine ⟨?_, hK' _ ?_⟩ | refine ⟨?_, ?_, hK' _ ?_⟩) <;> clear hK' K' <;> (first | (show alist _ _ _ _ _ _; skip) | (intro s hs; cases hs; done) | assumption | (simp; done) | omega | (simp; omega) | skip))) | refine ah_e 3 rfl (by kernel_rfl) rfl rfl ?_ | refine ah_u 3 rfl (by kernel_rfl) rfl rfl ?_)
        ((first | refine ah_l 20 rfl ?_ | refine ah_split 20 _ rfl (fun hb => ?_) (fun hb => ?_)) <;> (first | (first | refine ah_r 4 rfl (by kernel_rfl) rfl fun K' hK' => ?_ | refine ah_t 4 rfl (by kernel_rfl) rfl rfl fun K' hK' => ?_); (simp only [go_sem, simprocAttr]); (first | (refine hK' _ ?_); clear hK' K' | ((first | refine ⟨?_, hK' _ ?_⟩ | refine ⟨?_, ?_, hK' _ ?_⟩) <;> clear hK' K' <;> (first | (show alist _ _ _ _ _ _; skip) | (intro s hs; cases hs; done) | assumption | (simp; done) | omega | (simp; omega) | skip))) | refine ah_e 4 rfl (by kernel_rfl) rfl rfl ?_ | refine ah_u 4 rfl (by kernel_rfl) rfl rfl ?_))
        all_goals (first | (first | refine ah_r 5 rfl (by kernel_rfl) rfl fun K' hK' => ?_ | refine ah_t 5 rfl (by kernel_rfl) rfl rfl fun K' hK' => ?_); (simp only [go_sem, simprocAttr]); (first | (refine hK' _ ?_); clear hK' K' | ((first | refine ⟨?_, hK' _ ?_⟩ | refine ⟨?_, ?_, hK' _ ?_⟩) <;> clear hK' K' <;> (first | (show alist _ _ _ _ _ _; skip) | (intro s hs; cases hs; done) | assumption | (simp; done) | omega | (simp; omega) | skip))) | refine ah_e 5 rfl (by kernel_rfl) rfl rfl ?_ | refine ah_u 5 rfl (by kernel_rfl) rfl rfl ?_)
        all_goals (first | (first | refine ah_r 6 rfl (by kernel_rfl) rfl fun K' hK' => ?_ | refine ah_t 6 rfl (by kernel_rfl) rfl rfl fun K' hK' => ?_); (simp only [go_sem, simprocAttr]); (first | (refine hK' _ ?_); clear hK' K' | ((first | refine ⟨?_, hK' _ ?_⟩ | refine ⟨?_, ?_, hK' _ ?_⟩) <;> clear hK' K' <;> (first | (show alist _ _ _ _ _ _; skip) | (intro s hs; cases hs; done) | assumption | (simp; done) | omega | (simp; omega) | skip))) | refine ah_e 6 rfl (by kernel_rfl) rfl rfl ?_ | refine ah_u 6 rfl (by kernel_rfl) rfl rfl ?_)
        all_goals (first | (first | refine ah_r 7 rfl (by kernel_rfl) rfl fun K' hK' => ?_ | refine ah_t 7 rfl (by kernel_rfl) rfl rfl fun K' hK' => ?_); (simp only [go_sem, simprocAttr]); (first | (refine hK' _ ?_); clear hK' K' | ((first | refine ⟨?_, hK' _ ?_⟩ | refine ⟨?_, ?_, hK' _ ?_⟩) <;> clear hK' K' <;> (first | (show alist _ _ _ _ _ _; skip) | (intro s hs; cases hs; done) | assumption | (simp; done) | omega | (simp; omega) | skip))) | refine ah_e 7 rfl (by kernel_rfl) rfl rfl ?_ | refine ah_u 7 rfl (by kernel_rfl) rfl rfl ?_)
        all_goals (first | (first | refine ah_r 8 rfl (by kernel_rfl) rfl fun K' hK' => ?_ | refine ah_t 8 rfl (by kernel_rfl) rfl rfl fun K' hK' => ?_); (simp only [go_sem, simprocAttr]); (first | (refine hK' _ ?_); clear hK' K' | ((first | refine ⟨?_, hK' _ ?_⟩ | refine ⟨?_, ?_, hK' _ ?_⟩) <;> clear hK' K' <;> (first | (show alist _ _ _ _ _ _; skip) | (intro s hs; cases hs; done) | assumption | (simp; done) | omega | (simp; omega) | skip))) | refine ah_e 8 rfl (by kernel_rfl) rfl rfl ?_ | refine ah_u 8 rfl (by kernel_rfl) rfl rfl ?_)
        all_goals (first | (first | refine ah_r 9 rfl (by kernel_rfl) rfl fun K' hK' => ?_ | refine ah_t 9 rfl (by kernel_rfl) rfl rfl fun K' hK' => ?_); (simp only [go_sem, simprocAttr]); (first | (refine hK' _ ?_); clear hK' K' | ((first | refine ⟨?_, hK' _ ?_⟩ | refine ⟨?_, ?_, hK' _ ?_⟩) <;> clear hK' K' <;> (first | (show alist _ _ _ _ _ _; skip) | (intro s hs; cases hs; done) | assumption | (simp; done) | omega | (simp; omega) | skip))) | refine ah_e 9 rfl (by kernel_rfl) rfl rfl ?_ | refine ah_u 9 rfl (by kernel_rfl) rfl rfl ?_)
        all_goals (first | (first | refine ah_r 10 rfl (by kernel_rfl) rfl fun K' hK' => ?_ | refine ah_t 10 rfl (by kernel_rfl) rfl rfl fun K' hK' => ?_); (simp only [go_sem, simprocAttr]); (first | (refine hK' _ ?_); clear hK' K' | ((first | refine ⟨?_, hK' _ ?_⟩ | refine ⟨?_, ?_, hK' _ ?_⟩) <;> clear hK' K' <;> (first | (show alist _ _ _ _ _ _; skip) | (intro s hs; cases hs; done) | assumption | (simp; done) | omega | (simp; omega) | skip))) | refine ah_e 10 rfl (by kernel_rfl) rfl rfl ?_ | refine ah_u 10 rfl (by kernel_rfl) rfl rfl ?_)
        all_goals (first | (first | refine ah_r 11 rfl (by kernel_rfl) rfl fun K' hK' => ?_ | refine ah_t 11 rfl (by kernel_rfl) rfl rfl fun K' hK' => ?_); (simp only [go_sem, simprocAttr]); (first | (refine hK' _ ?_); clear hK' K' | ((first | refine ⟨?_, hK' _ ?_⟩ | refine ⟨?_, ?_, hK' _ ?_⟩) <;> clear hK' K' <;> (first | (show alist _ _ _ _ _ _; skip) | (intro s hs; cases hs; done) | assumption | (simp; done) | omega | (simp; omega) | skip))) | refine ah_e 11 rfl (by kernel_rfl) rfl rfl ?_ | refine ah_u 11 rfl (by kernel_rfl) rfl rfl ?_)
        all_goals (refine ah_done (by kernel_rfl) ?_; (simp only [go_sem, simprocAttr]); refine hK _ ?_; clear hK K)
        all_goals refine awp_ret ?_; (first | refine hR _ _ (.inl rfl) rfl ?_ | refine hR _ _ (.inl rfl) rfl ?_ ?_)
        all_goals rw [hV]
        all_goals simp only [go_sem, simprocAttr, cond_true, cond_false, Bool.false_and, Bool.true_and, *]
      · rw [hc] at hV
        (refine awp_reg_seq [2, 3, 7, 27] fun K hK => ?_; (repeat' (first | ((first | refine al_r rfl fun K' hK' => ?_ | refine al_d rfl fun K' hK' => ?_ | refine al_t rfl rfl fun K' hK' => ?_); (repeat (first | (simp only [go_sem, simprocAttr]) | refine AS.mk ?_ | refine AAp.grow ?_)); (first | ((first | refine hK' _ _ ?_ | refine ⟨?_, hK' _ _ ?_⟩ | refine ⟨?_, ?_, hK' _ _ ?_⟩ | refine ⟨?_, ?_, ?_, hK' _ _ ?_⟩) <;> clear hK' K' <;> (first | (show alist _ _ _ _ _ _; skip) | (intro s hs; cases hs; done) | assumption | (simp; done) | omega | (simp; omega) | skip)))) | refine al_e rfl rfl ?_ | refine al_u rfl rfl ?_ | ((fail_if_success (refine al_t rfl rfl fun K' hK' => ?_)); refine al_s _ rfl rfl rfl (fun hb => ?_) (fun hb => ?_)))); all_goals (refine al_nil ?_; (simp only [go_sem, simprocAttr]); refine hK _ ?_; clear hK K))
        refine awp_if (q.kind == 4) rfl (fun hc => ?_) (fun hc => ?_)
        · rw [hc] at hV
          refine awp_draw_seq (by kernel_rfl) [4, 5] fun K hK => ?_
          (first | (first | refine ah_r 0 rfl (by kernel_rfl) rfl fun K' hK' => ?_ | refine ah_t 0 rfl (by kernel_rfl) rfl rfl fun K' hK' => ?_); (simp only [go_sem, simprocAttr]); (first | (refine hK' _ ?_); clear hK' K' | ((first | refine ⟨?_, hK' _ ?_⟩ | refine ⟨?_, ?_, hK' _ ?_⟩) <;> clear hK' K' <;> (first | (show alist _ _ _ _ _ _; skip) | (intro s hs; cases hs; done) | assumption | (simp; done) | omega | (simp; omega) | skip))) | refine ah_e 0 rfl (by kernel_rfl) rfl rfl ?_ | refine ah_u 0 rfl (by kernel_rfl) rfl rfl ?_)
          (first | (first | refine ah_r 1 rfl (by kernel_rfl) rfl fun K' hK' => ?_ | refine ah_t 1 rfl (by kernel_rfl) rfl rfl fun K' hK' => ?_); (simp only [go_sem, simprocAttr]); (first | (refine hK' _ ?_); clear hK' K' | ((first | refine ⟨?_, hK' _ ?_⟩ | refine ⟨?_, ?_, hK' _ ?_⟩) <;> clear hK' K' <;> (first | (show alist _ _ _ _ _ _; skip) | (intro s hs; cases hs; done) | assumption | (simp; done) | omega | (simp; omega) | skip))) | refine ah_e 1 rfl (by kernel_rfl) rfl rfl ?_ | refine ah_u 1 rfl (by kernel_rfl) rfl rfl ?_)
          (first | (first | refine ah_r 2 rfl (by kernel_rfl) rfl fun K' hK' => ?_ | refine ah_t 2 rfl (by kernel_rfl) rfl rfl fun K' hK' => ?_); (simp only [go_sem, simprocAttr]); (first | (refine hK' _ ?_); clear hK' K' | ((first | refine ⟨?_, hK' _ ?_⟩ | refine ⟨?_, ?_, hK' _ ?_⟩) <;> clear hK' K' <;> (first | (show alist _ _ _ _ _ _; skip) | (intro s hs; cases hs; done) | assumption | (simp; done) | omega | (simp; omega) | skip))) | refine ah_e 2 rfl (by kernel_rfl) rfl rfl ?_ | refine ah_u 2 rfl (by kernel_rfl) rfl rfl ?_)
          (first | (first | refine ah_r 3 rfl (by kernel_rfl) rfl fun K' hK' => ?_ | refine ah_t 3 rfl (by kernel_rfl) rfl rfl fun K' hK' => ?_); (simp only [go_sem, simprocAttr]); (first | (refine hK' _ ?_); clear hK' K' | ((first | refine ⟨?_, hK' _ ?_⟩ | refine ⟨?_, ?_, hK' _ ?_⟩) <;> clear hK' K' <;> (first | (show alist _ _ _ _ _ _; skip) | (intro s hs; cases hs; done) | assumption | (simp; done) | omega | (simp; omega) | skip))) | refine ah_e 3 rfl (by kernel_rfl) rfl rfl ?_ | refine ah_u 3 rfl (by kernel_rfl) rfl rfl ?_)
          ((first | refine ah_l 32 rfl ?_ | refine ah_split 32 _ rfl (fun hb => ?_) (fun hb => ?_)) <;> (first | (first | refine ah_r 4 rfl (by kernel_rfl) rfl fun K' hK' => ?_ | refine ah_t 4 rfl (by kernel_rfl) rfl rfl fun K' hK' => ?_); (simp only [go_sem, simprocAttr]); (first | (refine hK' _ ?_); clear hK' K' | ((first | refine ⟨?_, hK' _ ?_⟩ | refine ⟨?_, ?_, hK' _ ?_⟩) <;> clear hK' K' <;> (first | (show alist _ _ _ _ _ _; skip) | (intro s hs; cases hs; done) | assumption | (simp; done) | omega | (simp; omega) | skip))) | refine ah_e 4 rfl (by kernel_rfl) rfl rfl ?_ | refine ah_u 4 rfl (by kernel_rfl) rfl rfl ?_))
          all_goals (first | (first | refine ah_r 5 rfl (by kernel_rfl) rfl fun K' hK' => ?_ | refine ah_t 5 rfl (by kernel_rfl) rfl rfl fun K' hK' => ?_); (simp only [go_sem, simprocAttr]); (first | (refine hK' _ ?_); clear hK' K' | ((first | refine ⟨?_, hK' _ ?_⟩ | refine ⟨?_, ?_, hK' _ ?_⟩) <;> clear hK' K' <;> (first | (show alist _ _ _ _ _ _; skip) | (intro s hs; cases hs; done) | assumption | (simp; done) | omega | (simp; omega) | skip))) | refine ah_e 5 rfl (by kernel_rfl) rfl rfl ?_ | refine ah_u 5 rfl (by kernel_rfl) rfl rfl ?_)
          all_goals (first | (first | refine ah_r 6 rfl (by kernel_rfl) rfl fun K' hK' => ?_ | refine ah_t 6 rfl (by kernel_rfl) rfl rfl fun K' hK' => ?_); (simp only [go_sem, simprocAttr]); (first | (refine hK' _ ?_); clear hK' K' | ((first | refine ⟨?_, hK' _ ?_⟩ | refine ⟨?_, ?_, hK' _ ?_⟩) <;> clear hK' K' <;> (first | (show alist _ _ _ _ _ _; skip) | (intro s hs; cases hs; done) | assumption | (simp; done) | omega | (simp; omega) | skip))) | refine ah_e 6 rfl (by kernel_rfl) rfl rfl ?_ | refine ah_u 6 rfl (by kernel_rfl) rfl rfl ?_)
          all_goals (first | (first | refine ah_r 7 rfl (by kernel_rfl) rfl fun K' hK' => ?_ | refine ah_t 7 rfl (by kernel_rfl) rfl rfl fun K' hK' => ?_); (simp only [go_sem, simprocAttr]); (first | (refine hK' _ ?_); clear hK' K' | ((first | refine ⟨?_, hK' _ ?_⟩ | refine ⟨?_, ?_, hK' _ ?_⟩) <;> clear hK' K' <;> (first | (show alist _ _ _ _ _ _; skip) | (intro s hs; cases hs; done) | assumption | (simp; done) | omega | (simp; omega) | skip))) | refine ah_e 7 rfl (by kernel_rfl) rfl rfl ?_ | refine ah_u 7 rfl (by kernel_rfl) rfl rfl ?_)
          all_goals (first | (first | refine ah_r 8 rfl (by kernel_rfl) rfl fun K' hK' => ?_ | refine ah_t 8 rfl (by kernel_rfl) rfl rfl fun K' hK' => ?_); (simp only [go_sem, simprocAttr]); (first | (refine hK' _ ?_); clear hK' K' | ((first | refine ⟨?_, hK' _ ?_⟩ | refine ⟨?_, ?_, hK' _ ?_⟩) <;> clear hK' K' <;> (first | (show alist _ _ _ _ _ _; skip) | (intro s hs; cases hs; done) | assumption | (simp; done) | omega | (simp; omega) | skip))) | refine ah_e 8 rfl (by kernel_rfl) rfl rfl ?_ | refine ah_u 8 rfl (by kernel_rfl) rfl rfl ?_)
          all_goals (first | (first | refine ah_r 9 rfl (by kernel_rfl) rfl fun K' hK' => ?_ | refine ah_t 9 rfl (by kernel_rfl) rfl rfl fun K' hK' => ?_); (simp only [go_sem, simprocAttr]); (first | (refine hK' _ ?_); clear hK' K' | ((first | refine ⟨?_, hK' _ ?_⟩ | refine ⟨?_, ?_, hK' _ ?_⟩) <;> clear hK' K' <;> (first | (show alist _ _ _ _ _ _; skip) | (intro s hs; cases hs; done) | assumption | (simp; done) | omega | (simp; omega) | skip))) | refine ah_e 9 rfl (by kernel_rfl) rfl rfl ?_ | refine ah_u 9 rfl (by kernel_rfl) rfl rfl ?_)
          all_goals (first | (first | refine ah_r 10 rfl (by kernel_rfl) rfl fun K' hK' => ?_ | refine ah_t 10 rfl (by kernel_rfl) rfl rfl fun K' hK' => ?_); (simp only [go_sem, simprocAttr]); (first | (refine hK' _ ?_); clear hK' K' | ((first | refine ⟨?_, hK' _ ?_⟩ | refine ⟨?_, ?_, hK' _ ?_⟩) <;> clear hK' K' <;> (first | (show alist _ _ _ _ _ _; skip) | (intro s hs; cases hs; done) | assumption | (simp; done) | omega | (simp; omega) | skip))) | refine ah_e 10 rfl (by kernel_rfl) rfl rfl ?_ | refine ah_u 10 rfl (by kernel_rfl) rfl rfl ?_)
          all_goals (first | (first | refine ah_r 11 rfl (by kernel_rfl) rfl fun K' hK' => ?_ | refine ah_t 11 rfl (by kernel_rfl) rfl rfl fun K' hK' => ?_); (simp only [go_sem, simprocAttr]); (first | (refine hK' _ ?_); clear hK' K' | ((first | refine ⟨?_, hK' _ ?_⟩ | refine ⟨?_, ?_, hK' _ ?_⟩) <;> clear hK' K' <;> (first | (show alist _ _ _ _ _ _; skip) | (intro s hs; cases hs; done) | assumption | (simp; done) | omega | (simp; omega) | skip))) | refine ah_e 11 rfl (by kernel_rfl) rfl rfl ?_ | refine ah_u 11 rfl (by kernel_rfl) rfl rfl ?_)
          all_goals (refine ah_done (by kernel_rfl) ?_; (simp only [go_sem, simprocAttr]); refine hK _ ?_; clear hK K)
          all_goals refine awp_ret ?_; (first | refine hR _ _ (.inl rfl) rfl ?_ | refine hR _ _ (.inl rfl) rfl ?_ ?_)
          all_goals rw [hV]
          all_goals simp only [go_sem, simprocAttr, cond_true, cond_false, Bool.false_and, Bool.true_and, *]
        · rw [hc] at hV
          (refine awp_reg_seq [2, 3, 7, 39] fun K hK => ?_; (repeat' (first | ((first | refine al_r rfl fun K' hK' => ?_ | refine al_d rfl fun K' hK' => ?_ | refine al_t rfl rfl fun K' hK' => ?_); (repeat (first | (simp only [go_sem, simprocAttr]) | refine AS.mk ?_ | refine AAp.grow ?_)); (first | ((first | refine hK' _ _ ?_ | refine ⟨?_, hK' _ _ ?_⟩ | refine ⟨?_, ?_, hK' _ _ ?_⟩ | refine ⟨?_, ?_, ?_, hK' _ _ ?_⟩) <;> clear hK' K' <;> (first | (show alist _ _ _ _ _ _; skip) | (intro s hs; cases hs; done) | assumption | (simp; done) | omega | (simp; omega) | skip)))) | refine al_e rfl rfl ?_ | refine al_u rfl rfl ?_ | ((fail_if_success (refine al_t rfl rfl fun K' hK' => ?_)); refine al_s _ rfl rfl rfl (fun hb => ?_) (fun hb => ?_)))); all_goals (refine al_nil ?_; (simp only [go_sem, simprocAttr]); refine hK _ ?_; clear hK K))
          refine awp_if (q.kind == 5) rfl (fun hc => ?_) (fun hc => ?_)
          · rw [hc] at hV
            refine awp_draw_seq (by kernel_rfl) [4, 5] fun K hK => ?_
            (first | (first | refine ah_r 0 rfl (by kernel_rfl) rfl fun K' hK' => ?_ | refine ah_t 0 rfl (by kernel_rfl) rfl rfl fun K' hK' => ?_); (simp only [go_sem, simprocAttr]); (first | (refine hK' _ ?_); clear hK' K' | ((first | refine ⟨?_, hK' _ ?_⟩ | refine ⟨?_, ?_, hK' _ ?_⟩) <;> clear hK' K' <;> (first | (show alist _ _ _ _ _ _; skip) | (intro s hs; cases hs; done) | assumption | (simp; done) | omega | (simp; omega) | skip))) | refine ah_e 0 rfl (by kernel_rfl) rfl rfl ?_ | refine ah_u 0 rfl (by kernel_rfl) rfl rfl ?_)
            (first | (first | refine ah_r 1 rfl (by kernel_rfl) rfl fun K' hK' => ?_ | refine ah_t 1 rfl (by kernel_rfl) rfl rfl fun K' hK' => ?_); (simp only [go_sem, simprocAttr]); (first | (refine hK' _ ?_); clear hK' K' | ((first | refine ⟨?_, hK' _ ?_⟩ | refine ⟨?_, ?_, hK' _ ?_⟩) <;> clear hK' K' <;> (first | (show alist _ _ _ _ _ _; skip) | (intro s hs; cases hs; done) | assumption | (simp; done) | omega | (simp; omega) | skip))) | refine ah_e 1 rfl (by kernel_rfl) rfl rfl ?_ | refine ah_u 1 rfl (by kernel_rfl) rfl rfl ?_)
            (first | (first | refine ah_r 2 rfl (by kernel_rfl) rfl fun K' hK' => ?_ | refine ah_t 2 rfl (by kernel_rfl) rfl rfl fun K' hK' => ?_); (simp only [go_sem, simprocAttr]); (first | (refine hK' _ ?_); clear hK' K' | ((first | refine ⟨?_, hK' _ ?_⟩ | refine ⟨?_, ?_, hK' _ ?_⟩) <;> clear hK' K' <;> (first | (show alist _ _ _ _ _ _; skip) | (intro s hs; cases hs; done) | assumption | (simp; done) | omega | (simp; omega) | skip))) | refine ah_e 2 rfl (by kernel_rfl) rfl rfl ?_ | refine ah_u 2 rfl (by kernel_rfl) rfl rfl ?_)
            (first | (first | refine ah_r 3 rfl (by kernel_rfl) rfl fun K' hK' => ?_ | refine ah_t 3 rfl (by kernel_rfl) rfl rfl fun K' hK' => ?_); (simp only [go_sem, simprocAttr]); (first | (refine hK' _ ?_); clear hK' K' | ((first | refine ⟨?_, hK' _ ?_⟩ | refine ⟨?_, ?_, hK' _ ?_⟩) <;> clear hK' K' <;> (first | (show alist _ _ _ _ _ _; skip) | (intro s hs; cases hs; done) | assumption | (simp; done) | omega | (simp; omega) | skip))) | refine ah_e 3 rfl (by kernel_rfl) rfl rfl ?_ | refine ah_u 3 rfl (by kernel_rfl) rfl rfl ?_)
            ((first | refine ah_l 44 rfl ?_ | refine ah_split 44 _ rfl (fun hb => ?_) (fun hb => ?_)) <;> (first | (first | refine ah_r 4 rfl (by kernel_rfl) rfl fun K' hK' => ?_ | refine ah_t 4 rfl (by kernel_rfl) rfl rfl fun K' hK' => ?_); (simp only [go_sem, simprocAttr]); (first | (refine hK' _ ?_); clear hK' K' | ((first | refine ⟨?_, hK' _ ?_⟩ | refine ⟨?_, ?_, hK' _ ?_⟩) <;> clear hK' K' <;> (first | (show alist _ _ _ _ _ _; skip) | (intro s hs; cases hs; done) | assumption | (simp; done) | omega | (simp; omega) | skip))) | refine ah_e 4 rfl (by kernel_rfl) rfl rfl ?_ | refine ah_u 4 rfl (by kernel_rfl) rfl rfl ?_))
            all_goals (first | (first | refine ah_r 5 rfl (by kernel_rfl) rfl fun K' hK' => ?_ | refine ah_t 5 rfl (by kernel_rfl) rfl rfl fun K' hK' => ?_); (simp only [go_sem, simprocAttr]); (first | (refine hK' _ ?_); clear hK' K' | ((first | refine ⟨?_, hK' _ ?_⟩ | refine ⟨?_, ?_, hK' _ ?_⟩) <;> clear hK' K' <;> (first | (show alist _ _ _ _ _ _; skip) | (intro s hs; cases hs; done) | assumption | (simp; done) | omega | (simp; omega) | skip))) | refine ah_e 5 rfl (by kernel_rfl) rfl rfl ?_ | refine ah_u 5 rfl (by kernel_rfl) rfl rfl ?_)
            all_goals (first | (first | refine ah_r 6 rfl (by kernel_rfl) rfl fun K' hK' => ?_ | refine ah_t 6 rfl (by kernel_rfl) rfl rfl fun K' hK' => ?_); (simp only [go_sem, simprocAttr]); (first | (refine hK' _ ?_); clear hK' K' | ((first | refine ⟨?_, hK' _ ?_⟩ | refine ⟨?_, ?_, hK' _ ?_⟩) <;> clear hK' K' <;> (first | (show alist _ _ _ _ _ _; skip) | (intro s hs; cases hs; done) | assumption | (simp; done) | omega | (simp; omega) | skip))) | refine ah_e 6 rfl (by kernel_rfl) rfl rfl ?_ | refine ah_u 6 rfl (by kernel_rfl) rfl rfl ?_)
            all_goals (first | (first | refine ah_r 7 rfl (by kernel_rfl) rfl fun K' hK' => ?_ | refine ah_t 7 rfl (by kernel_rfl) rfl rfl fun K' hK' => ?_); (simp only [go_sem, simprocAttr]); (first | (refine hK' _ ?_); clear hK' K' | ((first | refine ⟨?_, hK' _ ?_⟩ | refine ⟨?_, ?_, hK' _ ?_⟩) <;> clear hK' K' <;> (first | (show alist _ _ _ _ _ _; skip) | (intro s hs; cases hs; done) | assumption | (simp; done) | omega | (simp; omega) | skip))) | refine ah_e 7 rfl (by kernel_rfl) rfl rfl ?_ | refine ah_u 7 rfl (by kernel_rfl) rfl rfl ?_)
            all_goals (first | (first | refine ah_r 8 rfl (by kernel_rfl) rfl fun K' hK' => ?_ | refine ah_t 8 rfl (by kernel_rfl) rfl rfl fun K' hK' => ?_); (simp only [go_sem, simprocAttr]); (first | (refine hK' _ ?_); clear hK' K' | ((first | refine ⟨?_, hK' _ ?_⟩ | refine ⟨?_, ?_, hK' _ ?_⟩) <;> clear hK' K' <;> (first | (show alist _ _ _ _ _ _; skip) | (intro s hs; cases hs; done) | assumption | (simp; done) | omega | (simp; omega) | skip))) | refine ah_e 8 rfl (by kernel_rfl) rfl rfl ?_ | refine ah_u 8 rfl (by kernel_rfl) rfl rfl ?_)
            all_goals (first | (first | refine ah_r 9 rfl (by kernel_rfl) rfl fun K' hK' => ?_ | refine ah_t 9 rfl (by kernel_rfl) rfl rfl fun K' hK' => ?_); (simp only [go_sem, simprocAttr]); (first | (refine hK' _ ?_); clear hK' K' | ((first | refine ⟨?_, hK' _ ?_⟩ | refine ⟨?_, ?_, hK' _ ?_⟩) <;> clear hK' K' <;> (first | (show alist _ _ _ _ _ _; skip) | (intro s hs; cases hs; done) | assumption | (simp; done) | omega | (simp; omega) | skip))) | refine ah_e 9 rfl (by kernel_rfl) rfl rfl ?_ | refine ah_u 9 rfl (by kernel_rfl) rfl rfl ?_)
            all_goals (first | (first | refine ah_r 10 rfl (by kernel_rfl) rfl fun K' hK' => ?_ | refine ah_t 10 rfl (by kernel_rfl) rfl rfl fun K' hK' => ?_); (simp only [go_sem, simprocAttr]); (first | (refine hK' _ ?_); clear hK' K' | ((first | refine ⟨?_, hK' _ ?_⟩ | refine ⟨?_, ?_, hK' _ ?_⟩) <;> clear hK' K' <;> (first | (show alist _ _ _ _ _ _; skip) | (intro s hs; cases hs; done) | assumption | (simp; done) | omega | (simp; omega) | skip))) | refine ah_e 10 rfl (by kernel_rfl) rfl rfl ?_ | refine ah_u 10 rfl (by kernel_rfl) rfl rfl ?_)
            all_goals (first | (first | refine ah_r 11 rfl (by kernel_rfl) rfl fun K' hK' => ?_ | refine ah_t 11 rfl (by kernel_rfl) rfl rfl fun K' hK' => ?_); (simp only [go_sem, simprocAttr]); (first | (refine hK' _ ?_); clear hK' K' | ((first | refine ⟨?_, hK' _ ?_⟩ | refine ⟨?_, ?_, hK' _ ?_⟩) <;> clear hK' K' <;> (first | (show alist _ _ _ _ _ _; skip) | (intro s hs; cases hs; done) | assumption | (simp; done) | omega | (simp; omega) | skip))) | refine ah_e 11 rfl (by kernel_rfl) rfl rfl ?_ | refine ah_u 11 rfl (by kernel_rfl) rfl rfl ?_)
            all_goals (refine ah_done (by kernel_rfl) ?_; (simp only [go_sem, simprocAttr]); refine hK _ ?_; clear hK K)
            all_goals refine awp_ret ?_; (first | refine hR _ _ (.inl rfl) rfl ?_ | refine hR _ _ (.inl rfl) rfl ?_ ?_)
            all_goals rw [hV]
            all_goals simp only [go_sem, simprocAttr, cond_true, cond_false, Bool.false_and, Bool.true_and, *]
          · rw [hc] at hV
            (refine awp_reg_seq [2, 3, 51] fun K hK => ?_; (repeat' (first | ((first | refine al_r rfl fun K' hK' => ?_ | refine al_d rfl fun K' hK' => ?_ | refine al_t rfl rfl fun K' hK' => ?_); (repeat (first | (simp only [go_sem, simprocAttr]) | refine AS.mk ?_ | refine AAp.grow ?_)); (first | ((first | refine hK' _ _ ?_ | refine ⟨?_, hK' _ _ ?_⟩ | refine ⟨?_, ?_, hK' _ _ ?_⟩ | refine ⟨?_, ?_, ?_, hK' _ _ ?_⟩) <;> clear hK' K' <;> (first | (show alist _ _ _ _ _ _; skip) | (intro s hs; cases hs; done) | assumption | (simp; done) | omega | (simp; omega) | skip)))) | refine al_e rfl rfl ?_ | refine al_u rfl rfl ?_ | ((fail_if_success (refine al_t rfl rfl fun K' hK' => ?_)); refine al_s _ rfl rfl rfl (fun hb => ?_) (fun hb => ?_)))); all_goals (refine al_nil ?_; (simp only [go_sem, simprocAttr]); refine hK _ ?_; clear hK K))
            refine awp_if (q.kind == 6) rfl (fun hc => ?_) (fun hc => ?_)
            · rw [hc] at hV
              have hp := hp6 (by simpa using hc)
              (refine awp_reg_seq [4, 5] fun K hK => ?_; (repeat' (first | ((first | refine al_r rfl fun K' hK' => ?_ | refine al_d rfl fun K' hK' => ?_ | refine al_t rfl rfl fun K' hK' => ?_); (repeat (first | (simp only [go_sem, simprocAttr]) | refine AS.mk ?_ | refine AAp.grow ?_)); (first | ((first | refine hK' _ _ ?_ | refine ⟨?_, hK' _ _ ?_⟩ | refine ⟨?_, ?_, hK' _ _ ?_⟩ | refine ⟨?_, ?_, ?_, hK' _ _ ?_⟩) <;> clear hK' K' <;> (first | (show alist _ _ _ _ _ _; skip) | (intro s hs; cases hs; done) | assumption | (simp; done) | omega | (simp; omega) | skip)) | ((show AC _ _ (D.fn 54 _) _ _); refine acall_p (f := 54) (e := rfl) (hr := rfl) (k := hK' _ _ ?_) (hc := Try.call54) (h := hp); clear hK' K'))) | refine al_e rfl rfl ?_ | refine al_u rfl rfl ?_ | ((fail_if_success (refine al_t rfl rfl fun K' hK' => ?_)); refine al_s _ rfl rfl rfl (fun hb => ?_) (fun hb => ?_)))); all_goals (refine al_nil ?_; (simp only [go_sem, simprocAttr]); refine hK _ ?_; clear hK K))
              refine awp_ret ?_; (first | refine hR _ _ (.inl rfl) rfl ?_ | refine hR _ _ (.inl rfl) rfl ?_ ?_)
              rw [hV]
              simp only [go_sem, simprocAttr, cond_true, cond_false]
            · rw [hc] at hV
              refine awp_skip ?_
              refine hK _ ?_; clear hK K
              (refine awp_reg_seq [4, 5] fun K hK => ?_; (repeat' (first | ((first | refine al_r rfl fun K' hK' => ?_ | refine al_d rfl fun K' hK' => ?_ | refine al_t rfl rfl fun K' hK' => ?_); (repeat (first | (simp only [go_sem, simprocAttr]) | refine AS.mk ?_ | refine AAp.grow ?_)); (first | ((first | refine hK' _ _ ?_ | refine ⟨?_, hK' _ _ ?_⟩ | refine ⟨?_, ?_, hK' _ _ ?_⟩ | refine ⟨?_, ?_, ?_, hK' _ _ ?_⟩) <;> clear hK' K' <;> (first | (show alist _ _ _ _ _ _; skip) | (intro s hs; cases hs; done) | assumption | (simp; done) | omega | (simp; omega) | skip)))) | refine al_e rfl rfl ?_ | refine al_u rfl rfl ?_ | ((fail_if_success (refine al_t rfl rfl fun K' hK' => ?_)); refine al_s _ rfl rfl rfl (fun hb => ?_) (fun hb => ?_)))); all_goals (refine al_nil ?_; (simp only [go_sem, simprocAttr]); refine hK _ ?_; clear hK K))
              refine awp_ret ?_; (first | refine hR _ _ (.inl rfl) rfl ?_ | refine hR _ _ (.inl rfl) rfl ?_ ?_)
              rw [hV]
              simp only [go_sem, simprocAttr, cond_true, cond_false]
end Go.Proofs.Ytofbhmcmejhepaa.P
/- A pattern with any value for its names: contracts. -/
namespace Go.Proofs.Ytofbhmcmejhepaa.P
open Go.Ab Go.Proofs.Ytofbhmcmejhepaa.T

abbrev anyP : Pat := ⟨1, 0, ByteArray.empty, []⟩


theorem closedVar (q : Pat) (z : List PV) (rest : List (List PV)) (hk : (q.kind == 2) = true) (hz : ∀ y, y ∈ z :: rest → y.length = 4) : ACallP Try.prog 28 [patD q, .p (.sl (z :: rest))] (.tup [patD anyP, .p (.sl rest), bD true]) := by
  have h0 : decide (((z :: rest).length : Int) = 0) = false := by simp; omega
  have hle : (1 : Int) ≤ ((z :: rest).length : Int) := by simp; omega
  have hdr : List.drop 1 (List.take (((rest.length + 1 : Nat) : Int)).toNat (z :: rest)) = rest := by rw [Int.toNat_natCast, List.take_of_length_le (by simp)]; rfl
  refine acallp_fnv [.cell 4 57, .tmp 5, .tmp 6] Try.func28 rfl rfl Try.ntmps28 (by simp) fun R hR => ?_
  (refine awp_reg_seq [1, 2, 4] fun K hK => ?_; (repeat' (first | ((first | refine al_r rfl fun K' hK' => ?_ | refine al_d rfl fun K' hK' => ?_ | refine al_t rfl rfl fun K' hK' => ?_); (repeat (first | (simp only [go_sem, simprocAttr, List.length_map, hdr]) | refine AS.mk ?_ | refine AAp.grow ?_)); (first | ((first | refine hK' _ _ ?_ | refine ⟨?_, hK' _ _ ?_⟩ | refine ⟨?_, ?_, hK' _ _ ?_⟩ | refine ⟨?_, ?_, ?_, hK' _ _ ?_⟩) <;> clear hK' K' <;> (first | (show alist _ _ _ _ _ _; skip) | (intro s hs; cases hs; done) | assumption | (simp; done) | omega | (simp; omega) | skip)))) | refine al_e rfl rfl ?_ | refine al_u rfl rfl ?_ | ((fail_if_success (refine al_t rfl rfl fun K' hK' => ?_)); refine al_s _ rfl rfl rfl (fun hb => ?_) (fun hb => ?_)))); all_goals (refine al_nil ?_; (simp only [go_sem, simprocAttr, List.length_map, hdr]); refine hK _ ?_; clear hK K))
  (refine awp_frz [1, 2, 4] [1] (by decide) (by simp) ?_; simp only [go_sem, simprocAttr, List.length_map, hdr])
  refine awp_seq_k fun K hK => ?_
  (refine awp_reg_seq [1, 2, 4, 15] fun K hK => ?_; (repeat' (first | ((first | refine al_r rfl fun K' hK' => ?_ | refine al_d rfl fun K' hK' => ?_ | refine al_t rfl rfl fun K' hK' => ?_); (repeat (first | (simp only [go_sem, simprocAttr, List.length_map, hdr]) | refine AS.mk ?_ | refine AAp.grow ?_)); (first | ((first | refine hK' _ _ ?_ | refine ⟨?_, hK' _ _ ?_⟩ | refine ⟨?_, ?_, hK' _ _ ?_⟩ | refine ⟨?_, ?_, ?_, hK' _ _ ?_⟩) <;> clear hK' K' <;> (first | (show alist _ _ _ _ _ _; skip) | (intro s hs; cases hs; done) | assumption | (simp; done) | omega | (simp; omega) | skip)))) | refine al_e rfl rfl ?_ | refine al_u rfl rfl ?_ | ((fail_if_success (refine al_t rfl rfl fun K' hK' => ?_)); refine al_s _ rfl rfl rfl (fun hb => ?_) (fun hb => ?_)))); all_goals (refine al_nil ?_; (simp only [go_sem, simprocAttr, List.length_map, hdr]); refine hK _ ?_; clear hK K))
  refine awp_if (q.kind == 2) rfl (fun hc => ?_) (fun hc => ?_)
  · refine awp_seq_k fun K hK => ?_
    (refine awp_reg_seq [1, 2, 4, 18] fun K hK => ?_; (repeat' (first | ((first | refine al_r rfl fun K' hK' => ?_ | refine al_d rfl fun K' hK' => ?_ | refine al_t rfl rfl fun K' hK' => ?_); (repeat (first | (simp only [go_sem, simprocAttr, List.length_map, hdr]) | refine AS.mk ?_ | refine AAp.grow ?_)); (first | ((first | refine hK' _ _ ?_ | refine ⟨?_, hK' _ _ ?_⟩ | refine ⟨?_, ?_, hK' _ _ ?_⟩ | refine ⟨?_, ?_, ?_, hK' _ _ ?_⟩) <;> clear hK' K' <;> (first | (show alist _ _ _ _ _ _; skip) | (intro s hs; cases hs; done) | assumption | (simp; done) | omega | (simp; omega) | skip)))) | refine al_e rfl rfl ?_ | refine al_u rfl rfl ?_ | ((fail_if_success (refine al_t rfl rfl fun K' hK' => ?_)); refine al_s _ rfl rfl rfl (fun hb => ?_) (fun hb => ?_)))); all_goals (refine al_nil ?_; (simp only [go_sem, simprocAttr, List.length_map, hdr]); refine hK _ ?_; clear hK K))
    refine awp_if (_) rfl (fun hc => ?_) (fun hc => ?_)
    · simp at hc; omega
    · refine awp_skip ?_
      refine hK _ ?_; clear hK K
      refine awp_draw_seq (by kernel_rfl) [4, 5, 6] fun K hK => ?_
      have key : K (⟨ofL [(4, .ptr 0 0 0), (5, .p (.sl rest)), (6, bD true)], [.box [iD 1, iD 0, .p (.lit (.string ByteArray.empty)), .nil]], 0⟩) := by
        refine hK _ ?_; clear hK K
        refine awp_ret ?_; refine hR _ _ (.inl rfl) rfl ?_
        simp only [go_sem, simprocAttr, List.length_map, hdr]
      (first | (first | refine ah_r 1 rfl (by kernel_rfl) rfl fun K' hK' => ?_ | refine ah_t 1 rfl (by kernel_rfl) rfl rfl fun K' hK' => ?_); (simp only [go_sem, simprocAttr, List.length_map, hdr]); (first | (refine hK' _ ?_); clear hK' K' | ((first | refine ⟨?_, hK' _ ?_⟩ | refine ⟨?_, ?_, hK' _ ?_⟩) <;> clear hK' K' <;> (first | (show alist _ _ _ _ _ _; skip) | (intro s hs; cases hs; done) | assumption | (simp; done) | omega | (simp; omega) | skip))) | refine ah_e 1 rfl (by kernel_rfl) rfl rfl ?_ | refine ah_u 1 rfl (by kernel_rfl) rfl rfl ?_)
      refine ah_two 0 2 rfl rfl (by kernel_rfl) ?_ ?_
      · ((repeat' (first | ((first | refine al_r rfl fun K' hK' => ?_ | refine al_d rfl fun K' hK' => ?_ | refine al_t rfl rfl fun K' hK' => ?_); (repeat (first | (simp only [go_sem, simprocAttr, List.length_map, hdr]) | refine AS.mk ?_ | refine AAp.grow ?_)); (first | ((first | refine hK' _ _ ?_ | refine ⟨?_, hK' _ _ ?_⟩ | refine ⟨?_, ?_, hK' _ _ ?_⟩ | refine ⟨?_, ?_, ?_, hK' _ _ ?_⟩) <;> clear hK' K' <;> (first | (show alist _ _ _ _ _ _; skip) | (intro s hs; cases hs; done) | assumption | (simp; done) | omega | (simp; omega) | skip)))) | refine al_e rfl rfl ?_ | refine al_u rfl rfl ?_ | ((fail_if_success (refine al_t rfl rfl fun K' hK' => ?_)); refine al_s _ rfl rfl rfl (fun hb => ?_) (fun hb => ?_)))); all_goals refine al_nil ?_)
        refine ah_two 2 3 rfl rfl (by kernel_rfl) ?_ ?_
        · ((repeat' (first | ((first | refine al_r rfl fun K' hK' => ?_ | refine al_d rfl fun K' hK' => ?_ | refine al_t rfl rfl fun K' hK' => ?_); (repeat (first | (simp only [go_sem, simprocAttr, List.length_map, hdr]) | refine AS.mk ?_ | refine AAp.grow ?_)); (first | ((first | refine hK' _ _ ?_ | refine ⟨?_, hK' _ _ ?_⟩ | refine ⟨?_, ?_, hK' _ _ ?_⟩ | refine ⟨?_, ?_, ?_, hK' _ _ ?_⟩) <;> clear hK' K' <;> (first | (show alist _ _ _ _ _ _; skip) | (intro s hs; cases hs; done) | assumption | (simp; done) | omega | (simp; omega) | skip)))) | refine al_e rfl rfl ?_ | refine al_u rfl rfl ?_ | ((fail_if_success (refine al_t rfl rfl fun K' hK' => ?_)); refine al_s _ rfl rfl rfl (fun hb => ?_) (fun hb => ?_)))); all_goals refine al_nil ?_)
          (refine ah_one 3 rfl (by kernel_rfl) ?_; (repeat' (first | ((first | refine al_r rfl fun K' hK' => ?_ | refine al_d rfl fun K' hK' => ?_ | refine al_t rfl rfl fun K' hK' => ?_); (repeat (first | (simp only [go_sem, simprocAttr, List.length_map, hdr]) | refine AS.mk ?_ | refine AAp.grow ?_)); (first | ((first | refine hK' _ _ ?_ | refine ⟨?_, hK' _ _ ?_⟩ | refine ⟨?_, ?_, hK' _ _ ?_⟩ | refine ⟨?_, ?_, ?_, hK' _ _ ?_⟩) <;> clear hK' K' <;> (first | (show alist _ _ _ _ _ _; skip) | (intro s hs; cases hs; done) | assumption | (simp; done) | omega | (simp; omega) | skip)))) | refine al_e rfl rfl ?_ | refine al_u rfl rfl ?_ | ((fail_if_success (refine al_t rfl rfl fun K' hK' => ?_)); refine al_s _ rfl rfl rfl (fun hb => ?_) (fun hb => ?_)))); all_goals refine al_nil ?_)
          (first | (first | refine ah_r 4 rfl (by kernel_rfl) rfl fun K' hK' => ?_ | refine ah_t 4 rfl (by kernel_rfl) rfl rfl fun K' hK' => ?_); (simp only [go_sem, simprocAttr, List.length_map, hdr]); (first | (refine hK' _ ?_); clear hK' K' | ((first | refine ⟨?_, hK' _ ?_⟩ | refine ⟨?_, ?_, hK' _ ?_⟩) <;> clear hK' K' <;> (first | (show alist _ _ _ _ _ _; skip) | (intro s hs; cases hs; done) | assumption | (simp; done) | omega | (simp; omega) | skip))) | refine ah_e 4 rfl (by kernel_rfl) rfl rfl ?_ | refine ah_u 4 rfl (by kernel_rfl) rfl rfl ?_)
          (first | (first | refine ah_r 5 rfl (by kernel_rfl) rfl fun K' hK' => ?_ | refine ah_t 5 rfl (by kernel_rfl) rfl rfl fun K' hK' => ?_); (simp only [go_sem, simprocAttr, List.length_map, hdr]); (first | (refine hK' _ ?_); clear hK' K' | ((first | refine ⟨?_, hK' _ ?_⟩ | refine ⟨?_, ?_, hK' _ ?_⟩) <;> clear hK' K' <;> (first | (show alist _ _ _ _ _ _; skip) | (intro s hs; cases hs; done) | assumption | (simp; done) | omega | (simp; omega) | skip))) | refine ah_e 5 rfl (by kernel_rfl) rfl rfl ?_ | refine ah_u 5 rfl (by kernel_rfl) rfl rfl ?_)
          (refine ah_done (by kernel_rfl) ?_; (simp only [go_sem, simprocAttr, List.length_map, hdr]); exact key)
        · ((repeat' (first | ((first | refine al_r rfl fun K' hK' => ?_ | refine al_d rfl fun K' hK' => ?_ | refine al_t rfl rfl fun K' hK' => ?_); (repeat (first | (simp only [go_sem, simprocAttr, List.length_map, hdr]) | refine AS.mk ?_ | refine AAp.grow ?_)); (first | ((first | refine hK' _ _ ?_ | refine ⟨?_, hK' _ _ ?_⟩ | refine ⟨?_, ?_, hK' _ _ ?_⟩ | refine ⟨?_, ?_, ?_, hK' _ _ ?_⟩) <;> clear hK' K' <;> (first | (show alist _ _ _ _ _ _; skip) | (intro s hs; cases hs; done) | assumption | (simp; done) | omega | (simp; omega) | skip)))) | refine al_e rfl rfl ?_ | refine al_u rfl rfl ?_ | ((fail_if_success (refine al_t rfl rfl fun K' hK' => ?_)); refine al_s _ rfl rfl rfl (fun hb => ?_) (fun hb => ?_)))); all_goals refine al_nil ?_)
          (refine ah_one 2 rfl (by kernel_rfl) ?_; (repeat' (first | ((first | refine al_r rfl fun K' hK' => ?_ | refine al_d rfl fun K' hK' => ?_ | refine al_t rfl rfl fun K' hK' => ?_); (repeat (first | (simp only [go_sem, simprocAttr, List.length_map, hdr]) | refine AS.mk ?_ | refine AAp.grow ?_)); (first | ((first | refine hK' _ _ ?_ | refine ⟨?_, hK' _ _ ?_⟩ | refine ⟨?_, ?_, hK' _ _ ?_⟩ | refine ⟨?_, ?_, ?_, hK' _ _ ?_⟩) <;> clear hK' K' <;> (first | (show alist _ _ _ _ _ _; skip) | (intro s hs; cases hs; done) | assumption | (simp; done) | omega | (simp; omega) | skip)))) | refine al_e rfl rfl ?_ | refine al_u rfl rfl ?_ | ((fail_if_success (refine al_t rfl rfl fun K' hK' => ?_)); refine al_s _ rfl rfl rfl (fun hb => ?_) (fun hb => ?_)))); all_goals refine al_nil ?_)
          (first | (first | refine ah_r 4 rfl (by kernel_rfl) rfl fun K' hK' => ?_ | refine ah_t 4 rfl (by kernel_rfl) rfl rfl fun K' hK' => ?_); (simp only [go_sem, simprocAttr, List.length_map, hdr]); (first | (refine hK' _ ?_); clear hK' K' | ((first | refine ⟨?_, hK' _ ?_⟩ | refine ⟨?_, ?_, hK' _ ?_⟩) <;> clear hK' K' <;> (first | (show alist _ _ _ _ _ _; skip) | (intro s hs; cases hs; done) | assumption | (simp; done) | omega | (simp; omega) | skip))) | refine ah_e 4 rfl (by kernel_rfl) rfl rfl ?_ | refine ah_u 4 rfl (by kernel_rfl) rfl rfl ?_)
          (first | (first | refine ah_r 5 rfl (by kernel_rfl) rfl fun K' hK' => ?_ | refine ah_t 5 rfl (by kernel_rfl) rfl rfl fun K' hK' => ?_); (simp only [go_sem, simprocAttr, List.length_map, hdr]); (first | (refine hK' _ ?_); clear hK' K' | ((first | refine ⟨?_, hK' _ ?_⟩ | refine ⟨?_, ?_, hK' _ ?_⟩) <;> clear hK' K' <;> (first | (show alist _ _ _ _ _ _; skip) | (intro s hs; cases hs; done) | assumption | (simp; done) | omega | (simp; omega) | skip))) | refine ah_e 5 rfl (by kernel_rfl) rfl rfl ?_ | refine ah_u 5 rfl (by kernel_rfl) rfl rfl ?_)
          (refine ah_done (by kernel_rfl) ?_; (simp only [go_sem, simprocAttr, List.length_map, hdr]); exact key)
      · ((repeat' (first | ((first | refine al_r rfl fun K' hK' => ?_ | refine al_d rfl fun K' hK' => ?_ | refine al_t rfl rfl fun K' hK' => ?_); (repeat (first | (simp only [go_sem, simprocAttr, List.length_map, hdr]) | refine AS.mk ?_ | refine AAp.grow ?_)); (first | ((first | refine hK' _ _ ?_ | refine ⟨?_, hK' _ _ ?_⟩ | refine ⟨?_, ?_, hK' _ _ ?_⟩ | refine ⟨?_, ?_, ?_, hK' _ _ ?_⟩) <;> clear hK' K' <;> (first | (show alist _ _ _ _ _ _; skip) | (intro s hs; cases hs; done) | assumption | (simp; done) | omega | (simp; omega) | skip)))) | refine al_e rfl rfl ?_ | refine al_u rfl rfl ?_ | ((fail_if_success (refine al_t rfl rfl fun K' hK' => ?_)); refine al_s _ rfl rfl rfl (fun hb => ?_) (fun hb => ?_)))); all_goals refine al_nil ?_)
        (refine ah_one 0 rfl (by kernel_rfl) ?_; (repeat' (first | ((first | refine al_r rfl fun K' hK' => ?_ | refine al_d rfl fun K' hK' => ?_ | refine al_t rfl rfl fun K' hK' => ?_); (repeat (first | (simp only [go_sem, simprocAttr, List.length_map, hdr]) | refine AS.mk ?_ | refine AAp.grow ?_)); (first | ((first | refine hK' _ _ ?_ | refine ⟨?_, hK' _ _ ?_⟩ | refine ⟨?_, ?_, hK' _ _ ?_⟩ | refine ⟨?_, ?_, ?_, hK' _ _ ?_⟩) <;> clear hK' K' <;> (first | (show alist _ _ _ _ _ _; skip) | (intro s hs; cases hs; done) | assumption | (simp; done) | omega | (simp; omega) | skip)))) | refine al_e rfl rfl ?_ | refine al_u rfl rfl ?_ | ((fail_if_success (refine al_t rfl rfl fun K' hK' => ?_)); refine al_s _ rfl rfl rfl (fun hb => ?_) (fun hb => ?_)))); all_goals refine al_nil ?_)
        (refine ah_one 3 rfl (by kernel_rfl) ?_; (repeat' (first | ((first | refine al_r rfl fun K' hK' => ?_ | refine al_d rfl fun K' hK' => ?_ | refine al_t rfl rfl fun K' hK' => ?_); (repeat (first | (simp only [go_sem, simprocAttr, List.length_map, hdr]) | refine AS.mk ?_ | refine AAp.grow ?_)); (first | ((first | refine hK' _ _ ?_ | refine ⟨?_, hK' _ _ ?_⟩ | refine ⟨?_, ?_, hK' _ _ ?_⟩ | refine ⟨?_, ?_, ?_, hK' _ _ ?_⟩) <;> clear hK' K' <;> (first | (show alist _ _ _ _ _ _; skip) | (intro s hs; cases hs; done) | assumption | (simp; done) | omega | (simp; omega) | skip)))) | refine al_e rfl rfl ?_ | refine al_u rfl rfl ?_ | ((fail_if_success (refine al_t rfl rfl fun K' hK' => ?_)); refine al_s _ rfl rfl rfl (fun hb => ?_) (fun hb => ?_)))); all_goals refine al_nil ?_)
        (first | (first | refine ah_r 4 rfl (by kernel_rfl) rfl fun K' hK' => ?_ | refine ah_t 4 rfl (by kernel_rfl) rfl rfl fun K' hK' => ?_); (simp only [go_sem, simprocAttr, List.length_map, hdr]); (first | (refine hK' _ ?_); clear hK' K' | ((first | refine ⟨?_, hK' _ ?_⟩ | refine ⟨?_, ?_, hK' _ ?_⟩) <;> clear hK' K' <;> (first | (show alist _ _ _ _ _ _; skip) | (intro s hs; cases hs; done) | assumption | (simp; done) | omega | (simp; omega) | skip))) | refine ah_e 4 rfl (by kernel_rfl) rfl rfl ?_ | refine ah_u 4 rfl (by kernel_rfl) rfl rfl ?_)
        (first | (first | refine ah_r 5 rfl (by kernel_rfl) rfl fun K' hK' => ?_ | refine ah_t 5 rfl (by kernel_rfl) rfl rfl fun K' hK' => ?_); (simp only [go_sem, simprocAttr, List.length_map, hdr]); (first | (refine hK' _ ?_); clear hK' K' | ((first | refine ⟨?_, hK' _ ?_⟩ | refine ⟨?_, ?_, hK' _ ?_⟩) <;> clear hK' K' <;> (first | (show alist _ _ _ _ _ _; skip) | (intro s hs; cases hs; done) | assumption | (simp; done) | omega | (simp; omega) | skip))) | refine ah_e 5 rfl (by kernel_rfl) rfl rfl ?_ | refine ah_u 5 rfl (by kernel_rfl) rfl rfl ?_)
        (refine ah_done (by kernel_rfl) ?_; (simp only [go_sem, simprocAttr, List.length_map, hdr]); exact key)
  · rw [hk] at hc; cases hc


theorem closedNot (q : Pat) (l : List (List PV)) (hk : (q.kind == 2) = false) (hk6 : (q.kind != 6) = true) : ACallP Try.prog 28 [patD q, .p (.sl l)] (.tup [patD q, .p (.sl l), bD true]) := by
  refine acallp_fnv [.cell 4 57, .tmp 5, .tmp 6] Try.func28 rfl rfl Try.ntmps28 (by simp) fun R hR => ?_
  (refine awp_reg_seq [1, 2, 4] fun K hK => ?_; (repeat' (first | ((first | refine al_r rfl fun K' hK' => ?_ | refine al_d rfl fun K' hK' => ?_ | refine al_t rfl rfl fun K' hK' => ?_); (repeat (first | (simp only [go_sem, simprocAttr]) | refine AS.mk ?_ | refine AAp.grow ?_)); (first | ((first | refine hK' _ _ ?_ | refine ⟨?_, hK' _ _ ?_⟩ | refine ⟨?_, ?_, hK' _ _ ?_⟩ | refine ⟨?_, ?_, ?_, hK' _ _ ?_⟩) <;> clear hK' K' <;> (first | (show alist _ _ _ _ _ _; skip) | (intro s hs; cases hs; done) | assumption | (simp; done) | omega | (simp; omega) | skip)))) | refine al_e rfl rfl ?_ | refine al_u rfl rfl ?_ | ((fail_if_success (refine al_t rfl rfl fun K' hK' => ?_)); refine al_s _ rfl rfl rfl (fun hb => ?_) (fun hb => ?_)))); all_goals (refine al_nil ?_; (simp only [go_sem, simprocAttr]); refine hK _ ?_; clear hK K))
  (refine awp_frz [1, 2, 4] [1] (by decide) (by simp) ?_; simp only [go_sem, simprocAttr])
  refine awp_seq_k fun K hK => ?_
  (refine awp_reg_seq [1, 2, 4, 15] fun K hK => ?_; (repeat' (first | ((first | refine al_r rfl fun K' hK' => ?_ | refine al_d rfl fun K' hK' => ?_ | refine al_t rfl rfl fun K' hK' => ?_); (repeat (first | (simp only [go_sem, simprocAttr]) | refine AS.mk ?_ | refine AAp.grow ?_)); (first | ((first | refine hK' _ _ ?_ | refine ⟨?_, hK' _ _ ?_⟩ | refine ⟨?_, ?_, hK' _ _ ?_⟩ | refine ⟨?_, ?_, ?_, hK' _ _ ?_⟩) <;> clear hK' K' <;> (first | (show alist _ _ _ _ _ _; skip) | (intro s hs; cases hs; done) | assumption | (simp; done) | omega | (simp; omega) | skip)))) | refine al_e rfl rfl ?_ | refine al_u rfl rfl ?_ | ((fail_if_success (refine al_t rfl rfl fun K' hK' => ?_)); refine al_s _ rfl rfl rfl (fun hb => ?_) (fun hb => ?_)))); all_goals (refine al_nil ?_; (simp only [go_sem, simprocAttr]); refine hK _ ?_; clear hK K))
  refine awp_if (q.kind == 2) rfl (fun hc => ?_) (fun hc => ?_)
  · rw [hk] at hc; cases hc
  · refine awp_skip ?_
    refine hK _ ?_; clear hK K
    refine awp_seq_k fun K hK => ?_
    (refine awp_reg_seq [1, 2, 4, 25] fun K hK => ?_; (repeat' (first | ((first | refine al_r rfl fun K' hK' => ?_ | refine al_d rfl fun K' hK' => ?_ | refine al_t rfl rfl fun K' hK' => ?_); (repeat (first | (simp only [go_sem, simprocAttr]) | refine AS.mk ?_ | refine AAp.grow ?_)); (first | ((first | refine hK' _ _ ?_ | refine ⟨?_, hK' _ _ ?_⟩ | refine ⟨?_, ?_, hK' _ _ ?_⟩ | refine ⟨?_, ?_, ?_, hK' _ _ ?_⟩) <;> clear hK' K' <;> (first | (show alist _ _ _ _ _ _; skip) | (intro s hs; cases hs; done) | assumption | (simp; done) | omega | (simp; omega) | skip)))) | refine al_e rfl rfl ?_ | refine al_u rfl rfl ?_ | ((fail_if_success (refine al_t rfl rfl fun K' hK' => ?_)); refine al_s _ rfl rfl rfl (fun hb => ?_) (fun hb => ?_)))); all_goals (refine al_nil ?_; (simp only [go_sem, simprocAttr]); refine hK _ ?_; clear hK K))
    refine awp_if (q.kind != 6) rfl (fun hc => ?_) (fun hc => ?_)
    · (refine awp_reg_seq [4, 5, 6] fun K hK => ?_; (repeat' (first | ((first | refine al_r rfl fun K' hK' => ?_ | refine al_d rfl fun K' hK' => ?_ | refine al_t rfl rfl fun K' hK' => ?_); (repeat (first | (simp only [go_sem, simprocAttr]) | refine AS.mk ?_ | refine AAp.grow ?_)); (first | ((first | refine hK' _ _ ?_ | refine ⟨?_, hK' _ _ ?_⟩ | refine ⟨?_, ?_, hK' _ _ ?_⟩ | refine ⟨?_, ?_, ?_, hK' _ _ ?_⟩) <;> clear hK' K' <;> (first | (show alist _ _ _ _ _ _; skip) | (intro s hs; cases hs; done) | assumption | (simp; done) | omega | (simp; omega) | skip)))) | refine al_e rfl rfl ?_ | refine al_u rfl rfl ?_ | ((fail_if_success (refine al_t rfl rfl fun K' hK' => ?_)); refine al_s _ rfl rfl rfl (fun hb => ?_) (fun hb => ?_)))); all_goals (refine al_nil ?_; (simp only [go_sem, simprocAttr]); refine hK _ ?_; clear hK K))
      refine awp_ret ?_; refine hR _ _ (.inl rfl) rfl ?_
      simp only [go_sem, simprocAttr]
    · rw [hk6] at hc; cases hc

theorem take_row {qs : List Pat} {i : Nat} {x : Pat} (h : qs[i]? = some x) : (qs.take (i + 1)).map Pat.row = (qs.take i).map Pat.row ++ [x.row] := by
  rw [List.take_add_one, h]; simp


theorem closedMake (q : Pat) (Lf : Nat → List (List PV)) (qs : List Pat) (hk : (q.kind == 2) = false) (hk6 : (q.kind != 6) = false) (hq : ∀ r, r ∈ q.args → IsPat r) (hmax : q.args.length ≤ 2000000) (hl : qs.length = q.args.length)
    (hF : ∀ (i : Nat) x y, q.args[i]? = some x → qs[i]? = some y → ACallP Try.prog 28 [.agg (x.map .p), .p (.sl (Lf i))] (.tup [patD y, .p (.sl (Lf (i + 1))), bD true])) :
    ACallP Try.prog 28 [patD q, .p (.sl (Lf 0))] (.tup [patD ⟨q.kind, 0, q.text, qs.map Pat.row⟩, .p (.sl (Lf q.args.length)), bD true]) := by
  refine acallp_fnv [.cell 4 57, .tmp 5, .tmp 6] Try.func28 rfl rfl Try.ntmps28 (by simp) fun R hR => ?_
  (refine awp_reg_seq [1, 2, 4] fun K hK => ?_; (repeat' (first | ((first | refine al_r rfl fun K' hK' => ?_ | refine al_d rfl fun K' hK' => ?_ | refine al_t rfl rfl fun K' hK' => ?_); (repeat (first | (simp only [go_sem, simprocAttr]) | refine AS.mk ?_ | refine AAp.grow ?_)); (first | ((first | refine hK' _ _ ?_ | refine ⟨?_, hK' _ _ ?_⟩ | refine ⟨?_, ?_, hK' _ _ ?_⟩ | refine ⟨?_, ?_, ?_, hK' _ _ ?_⟩) <;> clear hK' K' <;> (first | (show alist _ _ _ _ _ _; skip) | (intro s hs; cases hs; done) | assumption | (simp; done) | omega | (simp; omega) | skip)))) | refine al_e rfl rfl ?_ | refine al_u rfl rfl ?_ | ((fail_if_success (refine al_t rfl rfl fun K' hK' => ?_)); refine al_s _ rfl rfl rfl (fun hb => ?_) (fun hb => ?_)))); all_goals (refine al_nil ?_; (simp only [go_sem, simprocAttr]); refine hK _ ?_; clear hK K))
  (refine awp_frz [1, 2, 4] [1] (by decide) (by simp) ?_; simp only [go_sem, simprocAttr])
  refine awp_seq_k fun K hK => ?_
  (refine awp_reg_seq [1, 2, 4, 15] fun K hK => ?_; (repeat' (first | ((first | refine al_r rfl fun K' hK' => ?_ | refine al_d rfl fun K' hK' => ?_ | refine al_t rfl rfl fun K' hK' => ?_); (repeat (first | (simp only [go_sem, simprocAttr]) | refine AS.mk ?_ | refine AAp.grow ?_)); (first | ((first | refine hK' _ _ ?_ | refine ⟨?_, hK' _ _ ?_⟩ | refine ⟨?_, ?_, hK' _ _ ?_⟩ | refine ⟨?_, ?_, ?_, hK' _ _ ?_⟩) <;> clear hK' K' <;> (first | (show alist _ _ _ _ _ _; skip) | (intro s hs; cases hs; done) | assumption | (simp; done) | omega | (simp; omega) | skip)))) | refine al_e rfl rfl ?_ | refine al_u rfl rfl ?_ | ((fail_if_success (refine al_t rfl rfl fun K' hK' => ?_)); refine al_s _ rfl rfl rfl (fun hb => ?_) (fun hb => ?_)))); all_goals (refine al_nil ?_; (simp only [go_sem, simprocAttr]); refine hK _ ?_; clear hK K))
  refine awp_if (q.kind == 2) rfl (fun hc => ?_) (fun hc => ?_)
  · rw [hk] at hc; cases hc
  · refine awp_skip ?_
    refine hK _ ?_; clear hK K
    refine awp_seq_k fun K hK => ?_
    (refine awp_reg_seq [1, 2, 4, 25] fun K hK => ?_; (repeat' (first | ((first | refine al_r rfl fun K' hK' => ?_ | refine al_d rfl fun K' hK' => ?_ | refine al_t rfl rfl fun K' hK' => ?_); (repeat (first | (simp only [go_sem, simprocAttr]) | refine AS.mk ?_ | refine AAp.grow ?_)); (first | ((first | refine hK' _ _ ?_ | refine ⟨?_, hK' _ _ ?_⟩ | refine ⟨?_, ?_, hK' _ _ ?_⟩ | refine ⟨?_, ?_, ?_, hK' _ _ ?_⟩) <;> clear hK' K' <;> (first | (show alist _ _ _ _ _ _; skip) | (intro s hs; cases hs; done) | assumption | (simp; done) | omega | (simp; omega) | skip)))) | refine al_e rfl rfl ?_ | refine al_u rfl rfl ?_ | ((fail_if_success (refine al_t rfl rfl fun K' hK' => ?_)); refine al_s _ rfl rfl rfl (fun hb => ?_) (fun hb => ?_)))); all_goals (refine al_nil ?_; (simp only [go_sem, simprocAttr]); refine hK _ ?_; clear hK K))
    refine awp_if (q.kind != 6) rfl (fun hc => ?_) (fun hc => ?_)
    · rw [hk6] at hc; cases hc
    · refine awp_skip ?_
      refine hK _ ?_; clear hK K
      (refine awp_reg_seq [1, 2, 4, 7] fun K hK => ?_; (repeat' (first | ((first | refine al_r rfl fun K' hK' => ?_ | refine al_d rfl fun K' hK' => ?_ | refine al_t rfl rfl fun K' hK' => ?_); (repeat (first | (simp only [go_sem, simprocAttr]) | refine AS.mk ?_ | refine AAp.grow ?_)); (first | ((first | refine hK' _ _ ?_ | refine ⟨?_, hK' _ _ ?_⟩ | refine ⟨?_, ?_, hK' _ _ ?_⟩ | refine ⟨?_, ?_, ?_, hK' _ _ ?_⟩) <;> clear hK' K' <;> (first | (show alist _ _ _ _ _ _; skip) | (intro s hs; cases hs; done) | assumption | (simp; done) | omega | (simp; omega) | skip)))) | refine al_e rfl rfl ?_ | refine al_u rfl rfl ?_ | ((fail_if_success (refine al_t rfl rfl fun K' hK' => ?_)); refine al_s _ rfl rfl rfl (fun hb => ?_) (fun hb => ?_)))); all_goals (refine al_nil ?_; (simp only [go_sem, simprocAttr]); refine hK _ ?_; clear hK K))
      refine awp_born_box 1 3 4 rfl rfl ?_
      simp only [go_sem, simprocAttr]
      refine awp_seq_k fun K hK => ?_
      (refine awp_reg_seq [1, 2, 4, 7, 34, 35, 36] fun K hK => ?_; (repeat' (first | ((first | refine al_r rfl fun K' hK' => ?_ | refine al_d rfl fun K' hK' => ?_ | refine al_t rfl rfl fun K' hK' => ?_); (repeat (first | (simp only [go_sem, simprocAttr]) | refine AS.mk ?_ | refine AAp.grow ?_)); (first | ((first | refine hK' _ _ ?_ | refine ⟨?_, hK' _ _ ?_⟩ | refine ⟨?_, ?_, hK' _ _ ?_⟩ | refine ⟨?_, ?_, ?_, hK' _ _ ?_⟩) <;> clear hK' K' <;> (first | (show alist _ _ _ _ _ _; skip) | (intro s hs; cases hs; done) | assumption | (simp; done) | omega | (simp; omega) | skip)))) | refine al_e rfl rfl ?_ | refine al_u rfl rfl ?_ | ((fail_if_success (refine al_t rfl rfl fun K' hK' => ?_)); refine al_s _ rfl rfl rfl (fun hb => ?_) (fun hb => ?_)))); all_goals (refine al_nil ?_; (simp only [go_sem, simprocAttr]); refine hK _ ?_; clear hK K))
      refine awp_block ?_
      -- loop 0 head [1, 2, 4, 7, 34, 35, 36]
      refine awp_loop_cut (fun m s => ∃ i : Nat, i ≤ q.args.length ∧ m = q.args.length - i ∧ s = ⟨ofL [(1, .p (.sl (Lf i))), (2, .rd [.lit (.int .i64 q.kind), .lit (.int .i64 q.num), .lit (.string q.text), .sl q.args] 0), (4, .ptr 0 0 0), (7, .ptr 1 0 0), (34, .p (.sl q.args)), (35, iD q.args.length), (36, iD i)], [.box [iD 0, iD 0, .p (.lit (.string ByteArray.empty)), .nil], .box [iD q.kind, iD 0, .p (.lit (.string q.text)), .ref 2 0 i], .row 4 ((qs.take i).map Pat.row)], 0⟩) ⟨_, 0, Nat.zero_le _, rfl, rfl⟩ ?_
      rintro m s ⟨i, hi, hm, rfl⟩
      (refine awp_reg_seq [1, 2, 4, 7, 34, 35, 36, 37] fun K hK => ?_; (repeat' (first | ((first | refine al_r rfl fun K' hK' => ?_ | refine al_d rfl fun K' hK' => ?_ | refine al_t rfl rfl fun K' hK' => ?_); (repeat (first | (simp only [go_sem, simprocAttr]) | refine AS.mk ?_ | refine AAp.grow ?_)); (first | ((first | refine hK' _ _ ?_ | refine ⟨?_, hK' _ _ ?_⟩ | refine ⟨?_, ?_, hK' _ _ ?_⟩ | refine ⟨?_, ?_, ?_, hK' _ _ ?_⟩) <;> clear hK' K' <;> (first | (show alist _ _ _ _ _ _; skip) | (intro s hs; cases hs; done) | assumption | (simp; done) | omega | (simp; omega) | skip)))) | refine al_e rfl rfl ?_ | refine al_u rfl rfl ?_ | ((fail_if_success (refine al_t rfl rfl fun K' hK' => ?_)); refine al_s _ rfl rfl rfl (fun hb => ?_) (fun hb => ?_)))); all_goals (refine al_nil ?_; (simp only [go_sem, simprocAttr]); refine hK _ ?_; clear hK K))
      refine awp_seq_k fun K hK => ?_
      refine awp_if (decide ((i : Int) < (q.args.length : Int))) rfl (fun hc => ?_) (fun hc => ?_)
      · refine awp_skip ?_
        refine hK _ ?_; clear hK K
        refine awp_seq_k fun K hK => ?_
        refine awp_block ?_
        have hi2 : i < q.args.length := by simpa using hc
        obtain ⟨x, hget⟩ := get_of_lt hi2
        obtain ⟨y, hgety⟩ := get_of_lt (l := qs) (i := i) (by omega)
        have hnn : (0 : Int) ≤ (i : Int) := Int.natCast_nonneg i
        have hnx : IntKind.i64.wrap ((i : Int) + 1) = ((i + 1 : Nat) : Int) := wrap_next hi2 (by simp [maxLen]; omega)
        have hcall := hF i x y hget hgety
        obtain ⟨qq, rfl⟩ := hq x (List.mem_of_getElem? hget)
        have hfs := take_row hgety
        simp only [Pat.row, List.map_cons, List.map_nil] at hcall
        generalize hacc : (qs.take i).map Pat.row = acc at *
        have hal : acc.length = i := by rw [← hacc]; simp; omega
        have hta : List.take i acc = acc := List.take_of_length_le (by omega)
        have hfi : (i + 1) * 56 ≤ 140737488355328 := by omega

        (refine awp_reg_seq [1, 2, 4, 7, 9, 34, 35, 36] fun K hK => ?_; (repeat' (first | ((first | refine al_r rfl fun K' hK' => ?_ | refine al_d rfl fun K' hK' => ?_ | refine al_t rfl rfl fun K' hK' => ?_); (repeat (first | (simp only [go_sem, simprocAttr, hget, hnn, hi2, hnx, hta, hal, hfi, Int.toNat_natCast, Pat.row, List.drop_zero]) | refine AS.mk ?_ | refine AAp.grow ?_)); (first | ((first | refine hK' _ _ ?_ | refine ⟨?_, hK' _ _ ?_⟩ | refine ⟨?_, ?_, hK' _ _ ?_⟩ | refine ⟨?_, ?_, ?_, hK' _ _ ?_⟩) <;> clear hK' K' <;> (first | (show alist _ _ _ _ _ _; skip) | (intro s hs; cases hs; done) | assumption | (simp; done) | omega | (simp; omega) | skip)))) | refine al_e rfl rfl ?_ | refine al_u rfl rfl ?_ | ((fail_if_success (refine al_t rfl rfl fun K' hK' => ?_)); refine al_s _ rfl rfl rfl (fun hb => ?_) (fun hb => ?_)))); all_goals (refine al_nil ?_; (simp only [go_sem, simprocAttr, hget, hnn, hi2, hnx, hta, hal, hfi, Int.toNat_natCast, Pat.row, List.drop_zero]); refine hK _ ?_; clear hK K))
        (refine awp_frz [1, 2, 4, 7, 9, 34, 35, 36] [0, 1, 2] (by decide) (by simp) ?_; simp only [go_sem, simprocAttr, hget, hnn, hi2, hnx, hta, hal, hfi, Int.toNat_natCast, Pat.row, List.drop_zero])
        (refine awp_reg_seq [2, 4, 7, 10, 11, 12, 34, 35, 36] fun K hK => ?_; (repeat' (first | ((first | refine al_r rfl fun K' hK' => ?_ | refine al_d rfl fun K' hK' => ?_ | refine al_t rfl rfl fun K' hK' => ?_); (repeat (first | (simp only [go_sem, simprocAttr, hget, hnn, hi2, hnx, hta, hal, hfi, Int.toNat_natCast, Pat.row, List.drop_zero]) | refine AS.mk ?_ | refine AAp.grow ?_)); (first | ((first | refine hK' _ _ ?_ | refine ⟨?_, hK' _ _ ?_⟩ | refine ⟨?_, ?_, hK' _ _ ?_⟩ | refine ⟨?_, ?_, ?_, hK' _ _ ?_⟩) <;> clear hK' K' <;> (first | (show alist _ _ _ _ _ _; skip) | (intro s hs; cases hs; done) | assumption | (simp; done) | omega | (simp; omega) | skip)) | ((show AC _ _ (D.fn 28 _) _ _); refine acall_p (f := 28) (e := rfl) (hr := rfl) (k := hK' _ _ ?_) (hc := Try.call28) (h := hcall); clear hK' K'))) | refine al_e rfl rfl ?_ | refine al_u rfl rfl ?_ | ((fail_if_success (refine al_t rfl rfl fun K' hK' => ?_)); refine al_s _ rfl rfl rfl (fun hb => ?_) (fun hb => ?_)))); all_goals (refine al_nil ?_; (simp only [go_sem, simprocAttr, hget, hnn, hi2, hnx, hta, hal, hfi, Int.toNat_natCast, Pat.row, List.drop_zero]); refine hK _ ?_; clear hK K))
        (refine awp_frz [2, 4, 7, 10, 11, 12, 34, 35, 36] [0, 1, 2] (by decide) (by simp) ?_; simp only [go_sem, simprocAttr, hget, hnn, hi2, hnx, hta, hal, hfi, Int.toNat_natCast, Pat.row, List.drop_zero])
        refine awp_seq_k fun K hK => ?_
        (refine awp_reg_seq [2, 4, 7, 10, 11, 34, 35, 36, 48] fun K hK => ?_; (repeat' (first | ((first | refine al_r rfl fun K' hK' => ?_ | refine al_d rfl fun K' hK' => ?_ | refine al_t rfl rfl fun K' hK' => ?_); (repeat (first | (simp only [go_sem, simprocAttr, hget, hnn, hi2, hnx, hta, hal, hfi, Int.toNat_natCast, Pat.row, List.drop_zero]) | refine AS.mk ?_ | refine AAp.grow ?_)); (first | ((first | refine hK' _ _ ?_ | refine ⟨?_, hK' _ _ ?_⟩ | refine ⟨?_, ?_, hK' _ _ ?_⟩ | refine ⟨?_, ?_, ?_, hK' _ _ ?_⟩) <;> clear hK' K' <;> (first | (show alist _ _ _ _ _ _; skip) | (intro s hs; cases hs; done) | assumption | (simp; done) | omega | (simp; omega) | skip)))) | refine al_e rfl rfl ?_ | refine al_u rfl rfl ?_ | ((fail_if_success (refine al_t rfl rfl fun K' hK' => ?_)); refine al_s _ rfl rfl rfl (fun hb => ?_) (fun hb => ?_)))); all_goals (refine al_nil ?_; (simp only [go_sem, simprocAttr, hget, hnn, hi2, hnx, hta, hal, hfi, Int.toNat_natCast, Pat.row, List.drop_zero]); refine hK _ ?_; clear hK K))
        refine awp_if (_) rfl (fun hc => ?_) (fun hc => ?_)
        · cases hc
        · refine awp_skip ?_
          refine hK _ ?_; clear hK K
          (refine awp_reg_end [1, 2, 4, 7, 34, 35, 36] fun K hK => ?_; (repeat' (first | ((first | refine al_r rfl fun K' hK' => ?_ | refine al_d rfl fun K' hK' => ?_ | refine al_t rfl rfl fun K' hK' => ?_); (repeat (first | (simp only [go_sem, simprocAttr, hget, hnn, hi2, hnx, hta, hal, hfi, Int.toNat_natCast, Pat.row, List.drop_zero]) | refine AS.mk ?_ | refine AAp.grow ?_)); (first | ((first | refine hK' _ _ ?_ | refine ⟨?_, hK' _ _ ?_⟩ | refine ⟨?_, ?_, hK' _ _ ?_⟩ | refine ⟨?_, ?_, ?_, hK' _ _ ?_⟩) <;> clear hK' K' <;> (first | (show alist _ _ _ _ _ _; skip) | (intro s hs; cases hs; done) | assumption | (simp; done) | omega | (simp; omega) | skip)))) | refine al_e rfl rfl ?_ | refine al_u rfl rfl ?_ | ((fail_if_success (refine al_t rfl rfl fun K' hK' => ?_)); refine al_s _ rfl rfl rfl (fun hb => ?_) (fun hb => ?_)))); all_goals (refine al_nil ?_; (simp only [go_sem, simprocAttr, hget, hnn, hi2, hnx, hta, hal, hfi, Int.toNat_natCast, Pat.row, List.drop_zero]); refine hK _ ?_; clear hK K))
          refine hK _ ?_; clear hK K
          (refine awp_reg_end [1, 2, 4, 7, 34, 35, 36] fun K hK => ?_; (repeat' (first | ((first | refine al_r rfl fun K' hK' => ?_ | refine al_d rfl fun K' hK' => ?_ | refine al_t rfl rfl fun K' hK' => ?_); (repeat (first | (simp only [go_sem, simprocAttr, hget, hnn, hi2, hnx, hta, hal, hfi, Int.toNat_natCast, Pat.row, List.drop_zero]) | refine AS.mk ?_ | refine AAp.grow ?_)); (first | ((first | refine hK' _ _ ?_ | refine ⟨?_, hK' _ _ ?_⟩ | refine ⟨?_, ?_, hK' _ _ ?_⟩ | refine ⟨?_, ?_, ?_, hK' _ _ ?_⟩) <;> clear hK' K' <;> (first | (show alist _ _ _ _ _ _; skip) | (intro s hs; cases hs; done) | assumption | (simp; done) | omega | (simp; omega) | skip)))) | refine al_e rfl rfl ?_ | refine al_u rfl rfl ?_ | ((fail_if_success (refine al_t rfl rfl fun K' hK' => ?_)); refine al_s _ rfl rfl rfl (fun hb => ?_) (fun hb => ?_)))); all_goals (refine al_nil ?_; (simp only [go_sem, simprocAttr, hget, hnn, hi2, hnx, hta, hal, hfi, Int.toNat_natCast, Pat.row, List.drop_zero]); refine hK _ ?_; clear hK K))
          refine ⟨q.args.length - (i + 1), by omega, [1, 2, 4, 7, 34, 35, 36], [0, 1, 4], by decide, by intro q hq; exact absurd hq (Nat.not_lt_zero q), i + 1, hi2, rfl, ?_⟩
          rw [hfs]
          simp only [go_sem, simprocAttr, hget, hnn, hi2, hnx, hta, hal, hfi, Int.toNat_natCast, Pat.row, List.drop_zero, Pat.row]

      · have hie : i = qs.length := by simp at hc; omega
        have hie2 : i = q.args.length := by simp at hc; omega
        have htk : List.take i ((qs.take i).map Pat.row) = qs.map Pat.row := by rw [hie, List.take_length]; exact List.take_of_length_le (by simp)
        rw [hie2] at htk
        refine awp_exit ?_
        clear hK
        refine hK _ ?_; clear hK K
        (refine awp_reg_seq [4, 5, 6] fun K hK => ?_; (repeat' (first | ((first | refine al_r rfl fun K' hK' => ?_ | refine al_d rfl fun K' hK' => ?_ | refine al_t rfl rfl fun K' hK' => ?_); (repeat (first | (simp only [go_sem, simprocAttr]) | refine AS.mk ?_ | refine AAp.grow ?_)); (first | ((first | refine hK' _ _ ?_ | refine ⟨?_, hK' _ _ ?_⟩ | refine ⟨?_, ?_, hK' _ _ ?_⟩ | refine ⟨?_, ?_, ?_, hK' _ _ ?_⟩) <;> clear hK' K' <;> (first | (show alist _ _ _ _ _ _; skip) | (intro s hs; cases hs; done) | assumption | (simp; done) | omega | (simp; omega) | skip)))) | refine al_e rfl rfl ?_ | refine al_u rfl rfl ?_ | ((fail_if_success (refine al_t rfl rfl fun K' hK' => ?_)); refine al_s _ rfl rfl rfl (fun hb => ?_) (fun hb => ?_)))); all_goals (refine al_nil ?_; (simp only [go_sem, simprocAttr]); refine hK _ ?_; clear hK K))
        refine awp_ret ?_; refine hR _ _ (.inl rfl) rfl ?_
        simp only [go_sem, simprocAttr, htk, hie2]
end Go.Proofs.Ytofbhmcmejhepaa.P
/- What fits a pattern fits it with any values for its names: told ahead, without a program. -/
namespace Go.Proofs.Ytofbhmcmejhepaa.P
open Go.Ab Go.Proofs.Ytofbhmcmejhepaa.T

theorem c57 : Try.prog.cellsOf 57 = 4 := by kernel_rfl
theorem c55 : Try.prog.cellsOf 55 = 1 := by kernel_rfl
theorem closed5 : closedT Try.prog [3, 9, 32, 34, 41, 43, 45, 55, 57] = true := by kernel_rfl

set_option maxRecDepth 100000 in
theorem sh57 {f : Nat} {xs : List PV} (h : shapeOk Try.prog f 57 xs) : ∃ (q : Pat) (g : Nat), xs = q.row ∧ g < f ∧ q.args.length ≤ maxLen ∧ ∀ r, r ∈ q.args → r.length = 4 ∧ shapeOk Try.prog g 57 r := by
  obtain ⟨m, rfl, hl, hf⟩ := shape_struct Try.underlying57 h
  rw [c57] at hl
  match xs, hl with
  | [a, b, c, d], _ =>
    have h0 := hf _ (List.mem_cons_self)
    have h1 := hf _ (List.mem_cons_of_mem _ List.mem_cons_self)
    have h2 := hf _ (List.mem_cons_of_mem _ (List.mem_cons_of_mem _ List.mem_cons_self))
    have h3 := hf _ (List.mem_cons_of_mem _ (List.mem_cons_of_mem _ (List.mem_cons_of_mem _ List.mem_cons_self)))
    simp only [c3, c9, c55, List.drop_zero, List.drop_succ_cons, List.take_succ_cons, List.take_zero] at h0 h1 h2 h3
    obtain ⟨k, e0, _⟩ := shape_int Try.underlying3 h0
    obtain ⟨n, e1, _⟩ := shape_int Try.underlying3 h1
    obtain ⟨s, e2, _⟩ := shape_string Try.underlying9 h2
    obtain ⟨g, r, hg, e3, e4, e5⟩ := shape_slice Try.underlying55 h3
    simp only [List.cons.injEq, and_true] at e0 e1 e2 e3
    rw [c57] at e5
    exact ⟨⟨k, n, s, r⟩, g, by rw [e0, e1, e2, e3]; rfl, by omega, e4, e5.2⟩

theorem list_of {α : Type} : ∀ (n : Nat) (p : Nat → α → Prop), (∀ i, i < n → ∃ f, p i f) → ∃ l : List α, l.length = n ∧ ∀ (i : Nat) f, l[i]? = some f → p i f
  | 0, _, _ => ⟨[], rfl, fun i f h => by simp at h⟩
  | n + 1, p, h => by
    obtain ⟨f, hf⟩ := h 0 (by omega)
    obtain ⟨l, hl, hp⟩ := list_of n (fun i => p (i + 1)) fun i hi => h (i + 1) (by omega)
    refine ⟨f :: l, by simp [hl], fun i g hg => ?_⟩
    cases i with
    | zero => simp at hg; subst hg; exact hf
    | succ i => exact hp i g (by simpa using hg)

theorem flat_rows : ∀ (Ls : List Found) (args : List (List PV)), Ls.length = args.length → (∀ (i : Nat) x f, args[i]? = some x → Ls[i]? = some f → f.1.length ≤ pvRow x + 1) → (Ls.flatMap (·.1)).length ≤ pvRows args
  | [], args, _, _ => by simp
  | f :: Ls, [], h, _ => by cases h
  | f :: Ls, x :: args, h, hp => by
    have h0 := hp 0 x f rfl rfl
    have h1 := flat_rows Ls args (by simpa using h) fun i x f hx hf => hp (i + 1) x f hx hf
    rw [List.flatMap_cons, List.length_append, pvRows]; omega

theorem rows_len : ∀ (args : List (List PV)), args.length ≤ pvRows args
  | [] => Nat.zero_le _
  | x :: args => by rw [List.length_cons, pvRows]; have := rows_len args; omega

theorem rows_mem : ∀ {args : List (List PV)} {x : List PV}, x ∈ args → pvRow x + 1 ≤ pvRows args
  | y :: args, x, h => by
    rw [pvRows]
    rcases List.mem_cons.1 h with rfl | h
    · omega
    · have := rows_mem h; omega

/-- How the values of a pattern's names stand to the pattern. -/
structure Fitting (xs ys : List PV) (f : Found) : Prop where
  call : ACallP Try.prog 27 [.agg (xs.map .p), .agg (ys.map .p)] (.tup [.p (.sl f.1), bD f.2])
  none : f.2 = false → f.1 = []
  row : ∀ z, z ∈ f.1 → z.length = 4
  len : f.1.length ≤ pvRow xs + 1
  ok : f.2 = true → ∃ qq : Pat, ACallP Try.prog 27 [patD qq, .agg (ys.map .p)] (.tup [.p (.sl []), bD true]) ∧
    ∀ rest : List (List PV), (∀ z, z ∈ rest → z.length = 4) → ACallP Try.prog 28 [.agg (xs.map .p), .p (.sl (f.1 ++ rest))] (.tup [patD qq, .p (.sl rest), bD true])

theorem fitting_flat (q : Pat) (ys : List PV) (b : Bool) (hk : (q.kind == 2) = false) (hk6 : (q.kind != 6) = true)
    (h : ACallP Try.prog 27 [patD q, .agg (ys.map .p)] (.tup [.p (.sl []), bD b])) : Fitting q.row ys ([], b) where
  call := h
  none := fun _ => rfl
  row := fun z hz => by cases hz
  len := Nat.zero_le _
  ok := fun hb => by
    simp only at hb
    subst hb
    exact ⟨q, h, fun rest _ => closedNot q rest hk hk6⟩

theorem parts_empty (n : Nat) : partsR (List.replicate n ([], true)) = ([], true) := by
  unfold partsR
  rw [if_pos (by simp)]
  congr 1
  induction n with
  | zero => rfl
  | succ n ih => rw [List.replicate_succ, List.flatMap_cons, ih]; rfl

theorem fitting_make (q : Pat) (k n : Int) (t : ByteArray) (a : List (List PV)) (Ls : List Found) (hown : ACallP Try.prog 53 [valD k n t a] (valD k n t a)) (hk : q.kind = 6)
    (h : (k != 5 || !(t.toList == q.text.toList) || (a.length : Int) != (q.args.length : Int)) = false) (hq : ∀ r, r ∈ q.args → IsPat r) (ha : ∀ r, r ∈ a → IsVal r) (hl : Ls.length = q.args.length)
    (hsz : pvRow q.row ≤ 1048576) (hF : ∀ (i : Nat) x y f, q.args[i]? = some x → a[i]? = some y → Ls[i]? = some f → Fitting x y f) :
    Fitting q.row [.lit (.int .i64 k), .lit (.int .i64 n), .lit (.string t), .sl a] (partsR Ls) := by
  have hrw : pvRow q.row = pvRows q.args := by simp [Pat.row, pvRow, pvSize]
  have hal : a.length = q.args.length := by simp at h; omega
  have hlen := rows_len q.args
  have hget : ∀ (i : Nat), i < q.args.length → ∃ x y f, q.args[i]? = some x ∧ a[i]? = some y ∧ Ls[i]? = some f := fun i hi => by
    obtain ⟨x, hx⟩ := get_of_lt hi
    obtain ⟨y, hy⟩ := get_of_lt (l := a) (i := i) (by omega)
    obtain ⟨f, hf⟩ := get_of_lt (l := Ls) (i := i) (by omega)
    exact ⟨x, y, f, hx, hy, hf⟩
  have hFm : ∀ f, f ∈ Ls → ∃ x y, x ∈ q.args ∧ Fitting x y f := fun f hf => by
    obtain ⟨i, hi⟩ := List.getElem?_of_mem hf
    have hlt : i < Ls.length := by
      rcases Nat.lt_or_ge i Ls.length with h' | h'
      · exact h'
      · simp [List.getElem?_eq_none h'] at hi
    obtain ⟨x, y, f', h1, h2, h3⟩ := hget i (by omega)
    rw [hi] at h3; cases h3
    exact ⟨x, y, List.mem_of_getElem? h1, hF i x y f h1 h2 hi⟩
  have hrow : ∀ f, f ∈ Ls → ∀ z, z ∈ f.1 → z.length = 4 := fun f hf => by
    obtain ⟨x, y, _, h'⟩ := hFm f hf
    exact h'.row
  have hfl : (Ls.flatMap (·.1)).length ≤ pvRows q.args := flat_rows Ls q.args hl fun i x f hx hf => by
    obtain ⟨x', y, f', h1, h2, h3⟩ := hget i (by
      rcases Nat.lt_or_ge i q.args.length with h' | h'
      · exact h'
      · simp [List.getElem?_eq_none h'] at hx)
    rw [hx] at h1; cases h1; rw [hf] at h3; cases h3
    exact (hF i x y f hx h2 hf).len
  have hm : q.args.length ≤ maxLen := by simp [maxLen]; omega
  have hp := partsYes q k n t a Ls h hq ha hm hl (by omega) hrow fun i x y f hx hy hf => (hF i x y f hx hy hf).call
  have hcall := fitsAt q k n t a (partsR Ls) hown fun _ => hp
  have he : fitS q k n t a (partsR Ls) = partsR Ls := by unfold fitS; rw [hk]; rfl
  rw [he] at hcall
  refine ⟨hcall, fun hb => ?_, fun z hz => ?_, ?_, fun hb => ?_⟩
  · unfold partsR at hb ⊢
    split at hb
    · cases hb
    · rename_i h2; rw [if_neg h2]
  · unfold partsR at hz
    split at hz
    · obtain ⟨f, hf, hz⟩ := List.mem_flatMap.1 hz
      exact hrow f hf z hz
    · cases hz
  · rw [hrw]
    unfold partsR
    split
    · show (Ls.flatMap (·.1)).length ≤ _; omega
    · exact Nat.zero_le _
  · have hall : Ls.all (·.2) = true := by
      unfold partsR at hb
      split at hb
      · assumption
      · cases hb
    have hPe : (partsR Ls).1 = Ls.flatMap (·.1) := by unfold partsR; rw [if_pos hall]
    obtain ⟨qs, hql, hqs⟩ := list_of q.args.length (fun i (qq : Pat) => ∀ x y f, q.args[i]? = some x → a[i]? = some y → Ls[i]? = some f → ACallP Try.prog 27 [patD qq, .agg (y.map .p)] (.tup [.p (.sl []), bD true]) ∧
      ∀ rest : List (List PV), (∀ z, z ∈ rest → z.length = 4) → ACallP Try.prog 28 [.agg (x.map .p), .p (.sl (f.1 ++ rest))] (.tup [patD qq, .p (.sl rest), bD true])) fun i hi => by
        obtain ⟨x, y, f, hx, hy, hf⟩ := hget i hi
        obtain ⟨qq, h1, h2⟩ := (hF i x y f hx hy hf).ok (List.all_eq_true.1 hall f (List.mem_of_getElem? hf))
        refine ⟨qq, fun x' y' f' hx' hy' hf' => ?_⟩
        rw [hx] at hx'; cases hx'; rw [hy] at hy'; cases hy'; rw [hf] at hf'; cases hf'
        exact ⟨h1, h2⟩
    refine ⟨⟨q.kind, 0, q.text, qs.map Pat.row⟩, ?_, fun rest hrest => ?_⟩
    · have hl2 : (qs.map Pat.row).length = q.args.length := by simp [hql]
      have hp2 := partsYes ⟨q.kind, 0, q.text, qs.map Pat.row⟩ k n t a (List.replicate q.args.length ([], true)) (by show (k != 5 || !(t.toList == q.text.toList) || (a.length : Int) != ((qs.map Pat.row).length : Int)) = false; rw [hl2]; exact h)
        (fun r hr => by obtain ⟨p, _, rfl⟩ := List.mem_map.1 hr; exact ⟨p, rfl⟩) ha (by show (qs.map Pat.row).length ≤ maxLen; rw [hl2]; exact hm) (by show _ = (qs.map Pat.row).length; rw [hl2]; simp)
        (by have := parts_empty q.args.length; unfold partsR at this; rw [if_pos (by simp)] at this; have h9 := congrArg Prod.fst this; simp only at h9; rw [h9]; simp) (fun f hf z hz => by obtain ⟨_, rfl⟩ := List.mem_replicate.1 hf; cases hz) (fun i x y f hx hy hf => by
          obtain ⟨_, rfl⟩ := List.mem_replicate.1 (List.mem_of_getElem? hf)
          have hx2 : (qs.map Pat.row)[i]? = some x := hx
          rw [List.getElem?_map] at hx2
          cases hqi : qs[i]? with
          | none => rw [hqi] at hx2; cases hx2
          | some p =>
            rw [hqi] at hx2; cases hx2
            have hi : i < q.args.length := by
              rcases Nat.lt_or_ge i qs.length with h' | h'
              · omega
              · simp [List.getElem?_eq_none h'] at hqi
            obtain ⟨x', y', f', h1, h2, h3⟩ := hget i hi
            rw [hy] at h2; cases h2
            exact (hqs i p hqi x' y f' h1 hy h3).1)
      rw [parts_empty] at hp2
      have hc2 := fitsAt ⟨q.kind, 0, q.text, qs.map Pat.row⟩ k n t a ([], true) hown fun _ => hp2
      have he2 : fitS ⟨q.kind, 0, q.text, qs.map Pat.row⟩ k n t a ([], true) = ([], true) := by unfold fitS; rw [hk]; rfl
      rw [he2] at hc2
      exact hc2
    · have hclo := closedMake q (fun i => (Ls.drop i).flatMap (·.1) ++ rest) qs (by rw [hk]; rfl) (by rw [hk]; rfl) hq (by omega) (by omega) fun i x y hx hy => by
        have hi : i < q.args.length := by
          rcases Nat.lt_or_ge i q.args.length with h' | h'
          · exact h'
          · simp [List.getElem?_eq_none h'] at hx
        obtain ⟨x', y', f', h1, h2, h3⟩ := hget i hi
        rw [hx] at h1; cases h1
        have h4 := (hqs i y hy x y' f' hx h2 h3).2 ((Ls.drop (i + 1)).flatMap (·.1) ++ rest) fun z hz => by
          rcases List.mem_append.1 hz with hz | hz
          · obtain ⟨f, hf, hz⟩ := List.mem_flatMap.1 hz
            exact hrow f (List.mem_of_mem_drop hf) z hz
          · exact hrest z hz
        have hd : Ls.drop i = f' :: Ls.drop (i + 1) := by
          have hlt : i < Ls.length := by omega
          rw [List.getElem?_eq_getElem hlt] at h3
          cases h3
          exact List.drop_eq_getElem_cons hlt
        simp only [hd, List.flatMap_cons, List.append_assoc]
        exact h4
      rw [hPe]
      simp only [List.drop_zero] at hclo
      rw [show (Ls.drop q.args.length) = [] by rw [← hl]; exact List.drop_length] at hclo
      exact hclo

theorem fitting : ∀ (f : Nat) (xs ys : List PV) (g : Nat), shapeOk Try.prog f 57 xs → shapeOk Try.prog g 34 ys → pvRow xs ≤ 1048576 → ∃ F : Found, Fitting xs ys F := by
  intro f
  induction f using Nat.strongRecOn
  rename_i f ih
  intro xs ys g hxs hys hsz
  obtain ⟨q, g1, rfl, hg1, hqm, hqa⟩ := sh57 hxs
  have hys2 := hys
  obtain ⟨k, n, t, a, g2, rfl, hg2, ham, haa⟩ := sh34 hys
  have hown := ownV g k n t a hys2
  have hrw : pvRow q.row = pvRows q.args := by simp [Pat.row, pvRow, pvSize]
  have hq : ∀ r, r ∈ q.args → IsPat r := fun r hr => by
    obtain ⟨p, _, e, _⟩ := sh57 (hqa r hr).2
    exact ⟨p, e⟩
  have ha : ∀ r, r ∈ a → IsVal r := fun r hr => by
    obtain ⟨k', n', t', a', _, e, _⟩ := sh34 (haa r hr).2
    exact ⟨k', n', t', a', e⟩
  by_cases h6 : q.kind = 6
  · cases h : (k != 5 || !(t.toList == q.text.toList) || (a.length : Int) != (q.args.length : Int)) with
    | true =>
      have hcall := fitsAt q k n t a ([], false) hown fun _ => partsNo q k n t a h
      have he : fitS q k n t a ([], false) = ([], false) := by unfold fitS; rw [h6]; rfl
      rw [he] at hcall
      exact ⟨([], false), ⟨hcall, fun _ => rfl, fun z hz => (by cases hz), Nat.zero_le _, fun hb => (by cases hb)⟩⟩
    | false =>
      have hal : a.length = q.args.length := by simp at h; omega
      obtain ⟨Ls, hl, hLs⟩ := list_of q.args.length (fun i (F : Found) => ∀ x y, q.args[i]? = some x → a[i]? = some y → Fitting x y F) fun i hi => by
        obtain ⟨x, hx⟩ := get_of_lt hi
        obtain ⟨y, hy⟩ := get_of_lt (l := a) (i := i) (by omega)
        have hxm := List.mem_of_getElem? hx
        have := rows_mem hxm
        obtain ⟨F, hF⟩ := ih g1 hg1 x y g2 (hqa x hxm).2 (haa y (List.mem_of_getElem? hy)).2 (by omega)
        refine ⟨F, fun x' y' hx' hy' => ?_⟩
        rw [hx] at hx'; cases hx'; rw [hy] at hy'; cases hy'
        exact hF
      exact ⟨partsR Ls, fitting_make q k n t a Ls hown h6 h hq ha hl hsz fun i x y f hx hy hf => hLs i f hf x y hx hy⟩
  · have hcall := fitsAt q k n t a ([], false) hown fun h => absurd h h6
    have e6 : (q.kind == 6) = false := by simpa using h6
    by_cases h2 : q.kind = 2
    · have he : fitS q k n t a ([], false) = ([[.lit (.int .i64 k), .lit (.int .i64 n), .lit (.string t), .sl a]], true) := by unfold fitS; rw [h2]; rfl
      rw [he] at hcall
      refine ⟨([[.lit (.int .i64 k), .lit (.int .i64 n), .lit (.string t), .sl a]], true), ⟨hcall, fun h => (by cases h), fun z hz => (by rw [List.mem_singleton.1 hz]; rfl), by simp, fun _ => ⟨anyP, ?_, fun rest hrest => ?_⟩⟩⟩
      · have hc := fitsAt anyP k n t a ([], false) hown fun h => by cases h
        have he : fitS anyP k n t a ([], false) = ([], true) := rfl
        rw [he] at hc
        exact hc
      · exact closedVar q _ rest (by rw [h2]; rfl) fun y hy => by
          rcases List.mem_cons.1 hy with rfl | hy
          · rfl
          · exact hrest y hy
    · have e2 : (q.kind == 2) = false := by simpa using h2
      have hb : (fitS q k n t a ([], false)).1 = [] := by
        unfold fitS
        rw [e2, e6]
        cases (q.kind == 1) <;> cases (q.kind == 3) <;> cases (q.kind == 4) <;> cases (q.kind == 5) <;> rfl
      rw [hb] at hcall
      exact ⟨_, fitting_flat q _ _ e2 (by simpa using h6) hcall⟩
end Go.Proofs.Ytofbhmcmejhepaa.P
/- The closed fact that the statements on picks ask for. -/
namespace Go.Proofs.Ytofbhmcmejhepaa.P
open Go.Ab Go.Proofs.Ytofbhmcmejhepaa.T


theorem fits3 (m : Int) (pt : ByteArray) (pa : List (List PV)) (k n : Int) (t : ByteArray) (a : List (List PV)) : FitsAs ⟨3, m, pt, pa⟩ k n t a (k == 2 && n == m) := by
  refine ⟨[], ?_⟩
  refine acallp_fn [4, 5] Try.func27 rfl rfl Try.ntmps27 (by simp) fun R hR => ?_
  (refine awp_reg_seq [2, 3] fun K hK => ?_; (repeat' (first | ((first | refine al_r rfl fun K' hK' => ?_ | refine al_d rfl fun K' hK' => ?_ | refine al_t rfl rfl fun K' hK' => ?_); (repeat (first | (simp only [go_sem, simprocAttr]) | refine AS.mk ?_ | refine AAp.grow ?_)); (first | ((first | refine hK' _ _ ?_ | refine ⟨?_, hK' _ _ ?_⟩ | refine ⟨?_, ?_, hK' _ _ ?_⟩ | refine ⟨?_, ?_, ?_, hK' _ _ ?_⟩) <;> clear hK' K' <;> (first | (show alist _ _ _ _ _ _; skip) | (intro s hs; cases hs; done) | assumption | (simp; done) | omega | (simp; omega) | skip)))) | refine al_e rfl rfl ?_ | refine al_u rfl rfl ?_ | ((fail_if_success (refine al_t rfl rfl fun K' hK' => ?_)); refine al_s _ rfl rfl rfl (fun hb => ?_) (fun hb => ?_)))); all_goals (refine al_nil ?_; (simp only [go_sem, simprocAttr]); refine hK _ ?_; clear hK K))
  (refine awp_frz [2, 3] [] (by decide) (by simp) ?_; simp only [go_sem, simprocAttr])
  refine awp_seq_k fun K hK => ?_
  (refine awp_reg_seq [2, 3, 7] fun K hK => ?_; (repeat' (first | ((first | refine al_r rfl fun K' hK' => ?_ | refine al_d rfl fun K' hK' => ?_ | refine al_t rfl rfl fun K' hK' => ?_); (repeat (first | (simp only [go_sem, simprocAttr]) | refine AS.mk ?_ | refine AAp.grow ?_)); (first | ((first | refine hK' _ _ ?_ | refine ⟨?_, hK' _ _ ?_⟩ | refine ⟨?_, ?_, hK' _ _ ?_⟩ | refine ⟨?_, ?_, ?_, hK' _ _ ?_⟩) <;> clear hK' K' <;> (first | (show alist _ _ _ _ _ _; skip) | (intro s hs; cases hs; done) | assumption | (simp; done) | omega | (simp; omega) | skip)))) | refine al_e rfl rfl ?_ | refine al_u rfl rfl ?_ | ((fail_if_success (refine al_t rfl rfl fun K' hK' => ?_)); refine al_s _ rfl rfl rfl (fun hb => ?_) (fun hb => ?_)))); all_goals (refine al_nil ?_; (simp only [go_sem, simprocAttr]); refine hK _ ?_; clear hK K))
  refine awp_block ?_
  (refine awp_reg_seq [2, 3, 7, 8] fun K hK => ?_; (repeat' (first | ((first | refine al_r rfl fun K' hK' => ?_ | refine al_d rfl fun K' hK' => ?_ | refine al_t rfl rfl fun K' hK' => ?_); (repeat (first | (simp only [go_sem, simprocAttr]) | refine AS.mk ?_ | refine AAp.grow ?_)); (first | ((first | refine hK' _ _ ?_ | refine ⟨?_, hK' _ _ ?_⟩ | refine ⟨?_, ?_, hK' _ _ ?_⟩ | refine ⟨?_, ?_, ?_, hK' _ _ ?_⟩) <;> clear hK' K' <;> (first | (show alist _ _ _ _ _ _; skip) | (intro s hs; cases hs; done) | assumption | (simp; done) | omega | (simp; omega) | skip)))) | refine al_e rfl rfl ?_ | refine al_u rfl rfl ?_ | ((fail_if_success (refine al_t rfl rfl fun K' hK' => ?_)); refine al_s _ rfl rfl rfl (fun hb => ?_) (fun hb => ?_)))); all_goals (refine al_nil ?_; (simp only [go_sem, simprocAttr]); refine hK _ ?_; clear hK K))
  refine awp_if (_) rfl (fun hc => ?_) (fun hc => ?_)
  · cases hc
  · (refine awp_reg_seq [2, 3, 7, 10] fun K hK => ?_; (repeat' (first | ((first | refine al_r rfl fun K' hK' => ?_ | refine al_d rfl fun K' hK' => ?_ | refine al_t rfl rfl fun K' hK' => ?_); (repeat (first | (simp only [go_sem, simprocAttr]) | refine AS.mk ?_ | refine AAp.grow ?_)); (first | ((first | refine hK' _ _ ?_ | refine ⟨?_, hK' _ _ ?_⟩ | refine ⟨?_, ?_, hK' _ _ ?_⟩ | refine ⟨?_, ?_, ?_, hK' _ _ ?_⟩) <;> clear hK' K' <;> (first | (show alist _ _ _ _ _ _; skip) | (intro s hs; cases hs; done) | assumption | (simp; done) | omega | (simp; omega) | skip)))) | refine al_e rfl rfl ?_ | refine al_u rfl rfl ?_ | ((fail_if_success (refine al_t rfl rfl fun K' hK' => ?_)); refine al_s _ rfl rfl rfl (fun hb => ?_) (fun hb => ?_)))); all_goals (refine al_nil ?_; (simp only [go_sem, simprocAttr]); refine hK _ ?_; clear hK K))
    refine awp_if (_) rfl (fun hc => ?_) (fun hc => ?_)
    · cases hc
    · (refine awp_reg_seq [2, 3, 7, 15] fun K hK => ?_; (repeat' (first | ((first | refine al_r rfl fun K' hK' => ?_ | refine al_d rfl fun K' hK' => ?_ | refine al_t rfl rfl fun K' hK' => ?_); (repeat (first | (simp only [go_sem, simprocAttr]) | refine AS.mk ?_ | refine AAp.grow ?_)); (first | ((first | refine hK' _ _ ?_ | refine ⟨?_, hK' _ _ ?_⟩ | refine ⟨?_, ?_, hK' _ _ ?_⟩ | refine ⟨?_, ?_, ?_, hK' _ _ ?_⟩) <;> clear hK' K' <;> (first | (show alist _ _ _ _ _ _; skip) | (intro s hs; cases hs; done) | assumption | (simp; done) | omega | (simp; omega) | skip)))) | refine al_e rfl rfl ?_ | refine al_u rfl rfl ?_ | ((fail_if_success (refine al_t rfl rfl fun K' hK' => ?_)); refine al_s _ rfl rfl rfl (fun hb => ?_) (fun hb => ?_)))); all_goals (refine al_nil ?_; (simp only [go_sem, simprocAttr]); refine hK _ ?_; clear hK K))
      refine awp_if (_) rfl (fun hc => ?_) (fun hc => ?_)
      · refine awp_draw_tov (by kernel_rfl) [4, 5] [(4, .nil), (5, bD (k == 2 && n == m))] (h := ?_) (k := ?_)
        · all_goals (first | (first | refine ah_r 0 rfl (by kernel_rfl) rfl fun K' hK' => ?_ | refine ah_t 0 rfl (by kernel_rfl) rfl rfl fun K' hK' => ?_); (simp only [go_sem, simprocAttr]); (first | (refine hK' _ ?_); clear hK' K' | ((first | refine ⟨?_, hK' _ ?_⟩ | refine ⟨?_, ?_, hK' _ ?_⟩) <;> clear hK' K' <;> (first | (show alist _ _ _ _ _ _; skip) | (intro s hs; cases hs; done) | assumption | (simp; done) | omega | (simp; omega) | skip))) | refine ah_e 0 rfl (by kernel_rfl) rfl rfl ?_ | refine ah_u 0 rfl (by kernel_rfl) rfl rfl ?_)
          all_goals (first | (first | refine ah_r 1 rfl (by kernel_rfl) rfl fun K' hK' => ?_ | refine ah_t 1 rfl (by kernel_rfl) rfl rfl fun K' hK' => ?_); (simp only [go_sem, simprocAttr]); (first | (refine hK' _ ?_); clear hK' K' | ((first | refine ⟨?_, hK' _ ?_⟩ | refine ⟨?_, ?_, hK' _ ?_⟩) <;> clear hK' K' <;> (first | (show alist _ _ _ _ _ _; skip) | (intro s hs; cases hs; done) | assumption | (simp; done) | omega | (simp; omega) | skip))) | refine ah_e 1 rfl (by kernel_rfl) rfl rfl ?_ | refine ah_u 1 rfl (by kernel_rfl) rfl rfl ?_)
          all_goals (first | (first | refine ah_r 2 rfl (by kernel_rfl) rfl fun K' hK' => ?_ | refine ah_t 2 rfl (by kernel_rfl) rfl rfl fun K' hK' => ?_); (simp only [go_sem, simprocAttr]); (first | (refine hK' _ ?_); clear hK' K' | ((first | refine ⟨?_, hK' _ ?_⟩ | refine ⟨?_, ?_, hK' _ ?_⟩) <;> clear hK' K' <;> (first | (show alist _ _ _ _ _ _; skip) | (intro s hs; cases hs; done) | assumption | (simp; done) | omega | (simp; omega) | skip))) | refine ah_e 2 rfl (by kernel_rfl) rfl rfl ?_ | refine ah_u 2 rfl (by kernel_rfl) rfl rfl ?_)
          all_goals (first | (first | refine ah_r 3 rfl (by kernel_rfl) rfl fun K' hK' => ?_ | refine ah_t 3 rfl (by kernel_rfl) rfl rfl fun K' hK' => ?_); (simp only [go_sem, simprocAttr]); (first | (refine hK' _ ?_); clear hK' K' | ((first | refine ⟨?_, hK' _ ?_⟩ | refine ⟨?_, ?_, hK' _ ?_⟩) <;> clear hK' K' <;> (first | (show alist _ _ _ _ _ _; skip) | (intro s hs; cases hs; done) | assumption | (simp; done) | omega | (simp; omega) | skip))) | refine ah_e 3 rfl (by kernel_rfl) rfl rfl ?_ | refine ah_u 3 rfl (by kernel_rfl) rfl rfl ?_)
          all_goals ((first | refine ah_l 20 rfl ?_ | refine ah_split 20 _ rfl (fun hb => ?_) (fun hb => ?_)) <;> (first | (first | refine ah_r 4 rfl (by kernel_rfl) rfl fun K' hK' => ?_ | refine ah_t 4 rfl (by kernel_rfl) rfl rfl fun K' hK' => ?_); (simp only [go_sem, simprocAttr]); (first | (refine hK' _ ?_); clear hK' K' | ((first | refine ⟨?_, hK' _ ?_⟩ | refine ⟨?_, ?_, hK' _ ?_⟩) <;> clear hK' K' <;> (first | (show alist _ _ _ _ _ _; skip) | (intro s hs; cases hs; done) | assumption | (simp; done) | omega | (simp; omega) | skip))) | refine ah_e 4 rfl (by kernel_rfl) rfl rfl ?_ | refine ah_u 4 rfl (by kernel_rfl) rfl rfl ?_))
          all_goals ((first | refine ah_l 20 rfl ?_ | refine ah_split 20 _ rfl (fun hb => ?_) (fun hb => ?_)) <;> (first | (first | refine ah_r 5 rfl (by kernel_rfl) rfl fun K' hK' => ?_ | refine ah_t 5 rfl (by kernel_rfl) rfl rfl fun K' hK' => ?_); (simp only [go_sem, simprocAttr]); (first | (refine hK' _ ?_); clear hK' K' | ((first | refine ⟨?_, hK' _ ?_⟩ | refine ⟨?_, ?_, hK' _ ?_⟩) <;> clear hK' K' <;> (first | (show alist _ _ _ _ _ _; skip) | (intro s hs; cases hs; done) | assumption | (simp; done) | omega | (simp; omega) | skip))) | refine ah_e 5 rfl (by kernel_rfl) rfl rfl ?_ | refine ah_u 5 rfl (by kernel_rfl) rfl rfl ?_))
          all_goals ((first | refine ah_l 20 rfl ?_ | refine ah_split 20 _ rfl (fun hb => ?_) (fun hb => ?_)) <;> (first | (first | refine ah_r 6 rfl (by kernel_rfl) rfl fun K' hK' => ?_ | refine ah_t 6 rfl (by kernel_rfl) rfl rfl fun K' hK' => ?_); (simp only [go_sem, simprocAttr]); (first | (refine hK' _ ?_); clear hK' K' | ((first | refine ⟨?_, hK' _ ?_⟩ | refine ⟨?_, ?_, hK' _ ?_⟩) <;> clear hK' K' <;> (first | (show alist _ _ _ _ _ _; skip) | (intro s hs; cases hs; done) | assumption | (simp; done) | omega | (simp; omega) | skip))) | refine ah_e 6 rfl (by kernel_rfl) rfl rfl ?_ | refine ah_u 6 rfl (by kernel_rfl) rfl rfl ?_))
          all_goals ((first | refine ah_l 20 rfl ?_ | refine ah_split 20 _ rfl (fun hb => ?_) (fun hb => ?_)) <;> (first | (first | refine ah_r 7 rfl (by kernel_rfl) rfl fun K' hK' => ?_ | refine ah_t 7 rfl (by kernel_rfl) rfl rfl fun K' hK' => ?_); (simp only [go_sem, simprocAttr]); (first | (refine hK' _ ?_); clear hK' K' | ((first | refine ⟨?_, hK' _ ?_⟩ | refine ⟨?_, ?_, hK' _ ?_⟩) <;> clear hK' K' <;> (first | (show alist _ _ _ _ _ _; skip) | (intro s hs; cases hs; done) | assumption | (simp; done) | omega | (simp; omega) | skip))) | refine ah_e 7 rfl (by kernel_rfl) rfl rfl ?_ | refine ah_u 7 rfl (by kernel_rfl) rfl rfl ?_))
          all_goals ((first | refine ah_l 20 rfl ?_ | refine ah_split 20 _ rfl (fun hb => ?_) (fun hb => ?_)) <;> (first | (first | refine ah_r 8 rfl (by kernel_rfl) rfl fun K' hK' => ?_ | refine ah_t 8 rfl (by kernel_rfl) rfl rfl fun K' hK' => ?_); (simp only [go_sem, simprocAttr]); (first | (refine hK' _ ?_); clear hK' K' | ((first | refine ⟨?_, hK' _ ?_⟩ | refine ⟨?_, ?_, hK' _ ?_⟩) <;> clear hK' K' <;> (first | (show alist _ _ _ _ _ _; skip) | (intro s hs; cases hs; done) | assumption | (simp; done) | omega | (simp; omega) | skip))) | refine ah_e 8 rfl (by kernel_rfl) rfl rfl ?_ | refine ah_u 8 rfl (by kernel_rfl) rfl rfl ?_))
          all_goals (first | (first | refine ah_r 9 rfl (by kernel_rfl) rfl fun K' hK' => ?_ | refine ah_t 9 rfl (by kernel_rfl) rfl rfl fun K' hK' => ?_); (simp only [go_sem, simprocAttr]); (first | (refine hK' _ ?_); clear hK' K' | ((first | refine ⟨?_, hK' _ ?_⟩ | refine ⟨?_, ?_, hK' _ ?_⟩) <;> clear hK' K' <;> (first | (show alist _ _ _ _ _ _; skip) | (intro s hs; cases hs; done) | assumption | (simp; done) | omega | (simp; omega) | skip))) | refine ah_e 9 rfl (by kernel_rfl) rfl rfl ?_ | refine ah_u 9 rfl (by kernel_rfl) rfl rfl ?_)
          all_goals (first | (first | refine ah_r 10 rfl (by kernel_rfl) rfl fun K' hK' => ?_ | refine ah_t 10 rfl (by kernel_rfl) rfl rfl fun K' hK' => ?_); (simp only [go_sem, simprocAttr]); (first | (refine hK' _ ?_); clear hK' K' | ((first | refine ⟨?_, hK' _ ?_⟩ | refine ⟨?_, ?_, hK' _ ?_⟩) <;> clear hK' K' <;> (first | (show alist _ _ _ _ _ _; skip) | (intro s hs; cases hs; done) | assumption | (simp; done) | omega | (simp; omega) | skip))) | refine ah_e 10 rfl (by kernel_rfl) rfl rfl ?_ | refine ah_u 10 rfl (by kernel_rfl) rfl rfl ?_)
          all_goals (first | (first | refine ah_r 11 rfl (by kernel_rfl) rfl fun K' hK' => ?_ | refine ah_t 11 rfl (by kernel_rfl) rfl rfl fun K' hK' => ?_); (simp only [go_sem, simprocAttr]); (first | (refine hK' _ ?_); clear hK' K' | ((first | refine ⟨?_, hK' _ ?_⟩ | refine ⟨?_, ?_, hK' _ ?_⟩) <;> clear hK' K' <;> (first | (show alist _ _ _ _ _ _; skip) | (intro s hs; cases hs; done) | assumption | (simp; done) | omega | (simp; omega) | skip))) | refine ah_e 11 rfl (by kernel_rfl) rfl rfl ?_ | refine ah_u 11 rfl (by kernel_rfl) rfl rfl ?_)
          all_goals (refine ah_done (by kernel_rfl) ?_; simp only [go_sem, simprocAttr, *, Bool.and_true, Bool.and_false, Bool.true_and, Bool.false_and, Bool.or_true, Bool.true_or, Bool.or_false, Bool.false_or, Bool.not_true, Bool.not_false, Bool.false_eq_true])
        (intro K hK; (simp only [go_sem, simprocAttr]); refine hK _ ?_; clear hK K)
        all_goals (refine awp_ret ?_; (first | refine hR _ _ (.inl rfl) rfl ?_ | refine hR _ _ (.inl rfl) rfl ?_ ?_); (first | (simp only [go_sem, simprocAttr, *, Bool.and_true, Bool.and_false, Bool.true_and, Bool.false_and, Bool.or_true, Bool.true_or, Bool.or_false, Bool.false_or, Bool.not_true, Bool.not_false, Bool.false_eq_true]; done) | contradiction | (simp_all; done) | simp only [go_sem, simprocAttr, *, Bool.and_true, Bool.and_false, Bool.true_and, Bool.false_and, Bool.or_true, Bool.true_or, Bool.or_false, Bool.false_or, Bool.not_true, Bool.not_false, Bool.false_eq_true]))
      · cases hc

set_option maxRecDepth 100000 in
theorem leaf (k n : Int) (t : ByteArray) (hk : (Lit.int .i64 k).wf = true) (hn : (Lit.int .i64 n).wf = true) (ht : t.size ≤ maxLen) : shapeOk Try.prog 2 34 [.lit (.int .i64 k), .lit (.int .i64 n), .lit (.string t), .sl []] := by
  have hi : ∀ m : Int, (Lit.int .i64 m).wf = true → shapeOk Try.prog 1 3 [.lit (.int .i64 m)] := fun m hm => by
    unfold shapeOk
    rw [Try.underlying3]
    exact ⟨m, rfl, hm⟩
  have hs : shapeOk Try.prog 1 9 [.lit (.string t)] := by
    unfold shapeOk
    rw [Try.underlying9]
    exact ⟨t, rfl, ht⟩
  have hl : shapeOk Try.prog 1 32 [.sl []] := by
    unfold shapeOk
    rw [Try.underlying32]
    exact ⟨[], rfl, by simp, by simp, fun r hr => by cases hr⟩
  unfold shapeOk
  rw [Try.underlying34]
  refine ⟨by rw [c34]; rfl, fun g hg => ?_⟩
  simp only [List.mem_cons, List.not_mem_nil, or_false] at hg
  rcases hg with rfl | rfl | rfl | rfl <;> simp only [c3, c9, c32, List.drop_zero, List.drop_succ_cons, List.take_succ_cons, List.take_zero]
  · exact hi k hk
  · exact hi n hn
  · exact hs
  · exact hl

abbrev x3 : Letter := ⟨1, 0, 0, 0, ByteArray.empty, 2, 3, ByteArray.empty, []⟩
abbrev q3 : Pat := ⟨3, 3, ByteArray.empty, []⟩

set_option maxRecDepth 100000 in
theorem choose3 : ACallP Try.prog 42 [boxD [x3] 0, pats [q3]] (.tup [boxD [] 0, letterD x3, iD 0, iD 0]) := by
  have hsh : ∀ y, y ∈ [x3] → Shaped y := fun y hy => by
    rw [List.mem_singleton.1 hy]
    exact ⟨2, leaf 2 3 _ (by decide) (by decide) (by simp [maxLen])⟩
  have h := takeC [q3] (fun _ y => (firstAt (fun q : Pat => sK y == 2 && sN y == q.num) [q3], decide (firstAt (fun q : Pat => sK y == 2 && sN y == q.num) [q3] ≥ 0))) [x3] 0 (-1) (by kernel_rfl) hsh fun s y _ =>
    armClo [q3] (sK y) (sN y) (sT y) (sA y) s _ (first [q3] (by simp [maxLen]) (sK y) (sN y) (sT y) (sA y) _ fun q hq => by
      rw [List.mem_singleton.1 hq]
      exact fits3 3 _ _ _ _ _ _)
  have hR : takeF (fun _ y => (firstAt (fun q : Pat => sK y == 2 && sN y == q.num) [q3], decide (firstAt (fun q : Pat => sK y == 2 && sN y == q.num) [q3] ≥ 0))) (List.drop 0 [x3]) 0 (-1) = (0, some 0) := by kernel_rfl
  rw [hR] at h
  exact chooseSome [q3] [x3] [] 0 x3 0 h


theorem picks : ACallP Try.prog 25 [] (bD true) := by
  refine acallp_fn [0] Try.func25 rfl rfl Try.ntmps25 (by simp) fun R hR => ?_
  (refine awp_reg_seq [] fun K hK => ?_; (repeat' (first | ((first | refine al_r rfl fun K' hK' => ?_ | refine al_d rfl fun K' hK' => ?_ | refine al_t rfl rfl fun K' hK' => ?_); (repeat (first | (simp only [go_sem, simprocAttr, beq_self_eq_true]) | refine AS.mk ?_ | refine AAp.grow ?_)); (first | ((first | refine hK' _ _ ?_ | refine ⟨?_, hK' _ _ ?_⟩ | refine ⟨?_, ?_, hK' _ _ ?_⟩ | refine ⟨?_, ?_, ?_, hK' _ _ ?_⟩) <;> clear hK' K' <;> (first | (show alist _ _ _ _ _ _; skip) | (intro s hs; cases hs; done) | assumption | (simp; done) | omega | (simp; omega) | skip)))) | refine al_e rfl rfl ?_ | refine al_u rfl rfl ?_ | ((fail_if_success (refine al_t rfl rfl fun K' hK' => ?_)); refine al_s _ rfl rfl rfl (fun hb => ?_) (fun hb => ?_)))); all_goals (refine al_nil ?_; (simp only [go_sem, simprocAttr, beq_self_eq_true]); refine hK _ ?_; clear hK K))
  (refine awp_reg_seq [1] fun K hK => ?_; (repeat' (first | ((first | refine al_r rfl fun K' hK' => ?_ | refine al_d rfl fun K' hK' => ?_ | refine al_t rfl rfl fun K' hK' => ?_); (repeat (first | (simp only [go_sem, simprocAttr, beq_self_eq_true]) | refine AS.mk ?_ | refine AAp.grow ?_)); (first | ((first | refine hK' _ _ ?_ | refine ⟨?_, hK' _ _ ?_⟩ | refine ⟨?_, ?_, hK' _ _ ?_⟩ | refine ⟨?_, ?_, ?_, hK' _ _ ?_⟩) <;> clear hK' K' <;> (first | (show alist _ _ _ _ _ _; skip) | (intro s hs; cases hs; done) | assumption | (simp; done) | omega | (simp; omega) | skip)))) | refine al_e rfl rfl ?_ | refine al_u rfl rfl ?_ | ((fail_if_success (refine al_t rfl rfl fun K' hK' => ?_)); refine al_s _ rfl rfl rfl (fun hb => ?_) (fun hb => ?_)))); all_goals (refine al_nil ?_; (simp only [go_sem, simprocAttr, beq_self_eq_true]); refine hK _ ?_; clear hK K))
  (refine awp_reg_seq [3, 4, 5] fun K hK => ?_; (repeat' (first | ((first | refine al_r rfl fun K' hK' => ?_ | refine al_d rfl fun K' hK' => ?_ | refine al_t rfl rfl fun K' hK' => ?_); (repeat (first | (simp only [go_sem, simprocAttr, beq_self_eq_true]) | refine AS.mk ?_ | refine AAp.grow ?_)); (first | ((first | refine hK' _ _ ?_ | refine ⟨?_, hK' _ _ ?_⟩ | refine ⟨?_, ?_, hK' _ _ ?_⟩ | refine ⟨?_, ?_, ?_, hK' _ _ ?_⟩) <;> clear hK' K' <;> (first | (show alist _ _ _ _ _ _; skip) | (intro s hs; cases hs; done) | assumption | (simp; done) | omega | (simp; omega) | skip)) | ((show AC _ _ (D.fn 42 _) _ _); refine acall_w [] (by decide) (by simp) (f := 42) (e := rfl) (hr := fun _ => rfl) (k := hK' _ _ ?_) (hc := Try.call42) (h := choose3); clear hK' K'))) | refine al_e rfl rfl ?_ | refine al_u rfl rfl ?_ | ((fail_if_success (refine al_t rfl rfl fun K' hK' => ?_)); refine al_s _ rfl rfl rfl (fun hb => ?_) (fun hb => ?_)))); all_goals (refine al_nil ?_; (simp only [go_sem, simprocAttr, beq_self_eq_true]); refine hK _ ?_; clear hK K))
  (refine awp_reg_tov [0] [(0, bD true)] (h := ?_) (k := ?_); · ((repeat' (first | ((first | refine al_r rfl fun K' hK' => ?_ | refine al_d rfl fun K' hK' => ?_ | refine al_t rfl rfl fun K' hK' => ?_); (repeat (first | (simp only [go_sem, simprocAttr, beq_self_eq_true]) | refine AS.mk ?_ | refine AAp.grow ?_)); (first | ((first | refine hK' _ _ ?_ | refine ⟨?_, hK' _ _ ?_⟩ | refine ⟨?_, ?_, hK' _ _ ?_⟩ | refine ⟨?_, ?_, ?_, hK' _ _ ?_⟩) <;> clear hK' K' <;> (first | (show alist _ _ _ _ _ _; skip) | (intro s hs; cases hs; done) | assumption | (simp; done) | omega | (simp; omega) | skip)))) | refine al_e rfl rfl ?_ | refine al_u rfl rfl ?_ | ((fail_if_success (refine al_t rfl rfl fun K' hK' => ?_)); refine al_s _ rfl rfl rfl (fun hb => ?_) (fun hb => ?_)))); all_goals (refine al_nil ?_; simp only [go_sem, simprocAttr, beq_self_eq_true, *, Bool.and_true, Bool.and_false, Bool.true_and, Bool.false_and, Bool.or_true, Bool.true_or, Bool.or_false, Bool.false_or, Bool.not_true, Bool.not_false, Bool.false_eq_true]))); intro K hK; (simp only [go_sem, simprocAttr, beq_self_eq_true]); refine hK _ ?_; clear hK K
  all_goals (refine awp_ret ?_; (first | refine hR _ _ (.inl rfl) rfl ?_ | refine hR _ _ (.inl rfl) rfl ?_ ?_); (first | (simp only [go_sem, simprocAttr, beq_self_eq_true, *, Bool.and_true, Bool.and_false, Bool.true_and, Bool.false_and, Bool.or_true, Bool.true_or, Bool.or_false, Bool.false_or, Bool.not_true, Bool.not_false, Bool.false_eq_true]; done) | contradiction | (simp_all; done) | simp only [go_sem, simprocAttr, beq_self_eq_true, *, Bool.and_true, Bool.and_false, Bool.true_and, Bool.false_and, Bool.or_true, Bool.true_or, Bool.or_false, Bool.false_or, Bool.not_true, Bool.not_false, Bool.false_eq_true]))
end Go.Proofs.Ytofbhmcmejhepaa.P
/- The depth of patterns, told ahead; what the function of the statement PickFits answers. -/
namespace Go.Proofs.Ytofbhmcmejhepaa.P
open Go.Ab Go.Proofs.Ytofbhmcmejhepaa.T

def depAcc (F : List PV → Int) (l : List (List PV)) : Int := l.foldl (fun a x => if F x > a then F x else a) 0

theorem depAcc_succ (F : List PV → Int) {l : List (List PV)} {i : Nat} {x : List PV} (h : l[i]? = some x) :
    depAcc F (l.take (i + 1)) = if F x > depAcc F (l.take i) then F x else depAcc F (l.take i) := by
  unfold depAcc
  rw [List.take_add_one, h]
  simp


theorem depthP : ∀ (f : Nat) (xs : List PV), shapeOk Try.prog f 57 xs → ∃ d, ACallP Try.prog 52 [.agg (xs.map .p)] (iD d) := by
  intro f
  induction f using Nat.strongRecOn
  rename_i f ih
  intro xs hxs
  obtain ⟨⟨k, n, text, args⟩, g, rfl, hg, hmax, hargs⟩ := sh57 hxs
  simp only at hmax hargs
  have hch : ∀ x : List PV, ∃ dm : Int, x ∈ args → ACallP Try.prog 52 [.agg (x.map .p)] (iD dm) := fun x => by
    by_cases hx : x ∈ args
    · obtain ⟨d, h⟩ := ih g hg x (hargs x hx).2
      exact ⟨d, fun _ => h⟩
    · exact ⟨0, fun h => absurd h hx⟩
  obtain ⟨F, hF⟩ : ∃ F : List PV → Int, ∀ x, x ∈ args → ACallP Try.prog 52 [.agg (x.map .p)] (iD (F x)) := ⟨fun x => Classical.choose (hch x), fun x => Classical.choose_spec (hch x)⟩
  clear hch ih
  refine ⟨IntKind.i64.wrap (depAcc F args + 1), ?_⟩
  simp only [Pat.row, List.map_cons, List.map_nil]
  refine acallp_fn [2] Try.func52 rfl rfl Try.ntmps52 (by simp) fun R hR => ?_
  (refine awp_reg_seq [1] fun K hK => ?_; (repeat' (first | ((first | refine al_r rfl fun K' hK' => ?_ | refine al_d rfl fun K' hK' => ?_ | refine al_t rfl rfl fun K' hK' => ?_); (repeat (first | (simp only [go_sem, simprocAttr]) | refine AS.mk ?_ | refine AAp.grow ?_)); (first | ((first | refine hK' _ _ ?_ | refine ⟨?_, hK' _ _ ?_⟩ | refine ⟨?_, ?_, hK' _ _ ?_⟩ | refine ⟨?_, ?_, ?_, hK' _ _ ?_⟩) <;> clear hK' K' <;> (first | (show alist _ _ _ _ _ _; skip) | (intro s hs; cases hs; done) | assumption | (simp; done) | omega | (simp; omega) | skip)))) | refine al_e rfl rfl ?_ | refine al_u rfl rfl ?_ | ((fail_if_success (refine al_t rfl rfl fun K' hK' => ?_)); refine al_s _ rfl rfl rfl (fun hb => ?_) (fun hb => ?_)))); all_goals (refine al_nil ?_; (simp only [go_sem, simprocAttr]); refine hK _ ?_; clear hK K))
  (refine awp_frz [1] [] (by decide) (by simp) ?_; simp only [go_sem, simprocAttr])
  (refine awp_reg_seq [1, 3] fun K hK => ?_; (repeat' (first | ((first | refine al_r rfl fun K' hK' => ?_ | refine al_d rfl fun K' hK' => ?_ | refine al_t rfl rfl fun K' hK' => ?_); (repeat (first | (simp only [go_sem, simprocAttr]) | refine AS.mk ?_ | refine AAp.grow ?_)); (first | ((first | refine hK' _ _ ?_ | refine ⟨?_, hK' _ _ ?_⟩ | refine ⟨?_, ?_, hK' _ _ ?_⟩ | refine ⟨?_, ?_, ?_, hK' _ _ ?_⟩) <;> clear hK' K' <;> (first | (show alist _ _ _ _ _ _; skip) | (intro s hs; cases hs; done) | assumption | (simp; done) | omega | (simp; omega) | skip)))) | refine al_e rfl rfl ?_ | refine al_u rfl rfl ?_ | ((fail_if_success (refine al_t rfl rfl fun K' hK' => ?_)); refine al_s _ rfl rfl rfl (fun hb => ?_) (fun hb => ?_)))); all_goals (refine al_nil ?_; (simp only [go_sem, simprocAttr]); refine hK _ ?_; clear hK K))
  refine awp_seq_k fun K hK => ?_
  (refine awp_reg_seq [3, 7, 8, 9] fun K hK => ?_; (repeat' (first | ((first | refine al_r rfl fun K' hK' => ?_ | refine al_d rfl fun K' hK' => ?_ | refine al_t rfl rfl fun K' hK' => ?_); (repeat (first | (simp only [go_sem, simprocAttr]) | refine AS.mk ?_ | refine AAp.grow ?_)); (first | ((first | refine hK' _ _ ?_ | refine ⟨?_, hK' _ _ ?_⟩ | refine ⟨?_, ?_, hK' _ _ ?_⟩ | refine ⟨?_, ?_, ?_, hK' _ _ ?_⟩) <;> clear hK' K' <;> (first | (show alist _ _ _ _ _ _; skip) | (intro s hs; cases hs; done) | assumption | (simp; done) | omega | (simp; omega) | skip)))) | refine al_e rfl rfl ?_ | refine al_u rfl rfl ?_ | ((fail_if_success (refine al_t rfl rfl fun K' hK' => ?_)); refine al_s _ rfl rfl rfl (fun hb => ?_) (fun hb => ?_)))); all_goals (refine al_nil ?_; (simp only [go_sem, simprocAttr]); refine hK _ ?_; clear hK K))
  refine awp_block ?_
  -- loop 0 head [3, 7, 8, 9]
  refine awp_loop (fun m s => ∃ i : Nat, i ≤ args.length ∧ m = args.length - i ∧ s = ⟨ofL [(3, iD (depAcc F (args.take i))), (7, .p (.sl args)), (8, iD args.length), (9, iD i)], [], 0⟩) ⟨_, 0, Nat.zero_le _, rfl, rfl⟩ ?_
  rintro m s ⟨i, hi, rfl, rfl⟩
  (refine awp_reg_seq [3, 7, 8, 9, 10] fun K hK => ?_; (repeat' (first | ((first | refine al_r rfl fun K' hK' => ?_ | refine al_d rfl fun K' hK' => ?_ | refine al_t rfl rfl fun K' hK' => ?_); (repeat (first | (simp only [go_sem, simprocAttr]) | refine AS.mk ?_ | refine AAp.grow ?_)); (first | ((first | refine hK' _ _ ?_ | refine ⟨?_, hK' _ _ ?_⟩ | refine ⟨?_, ?_, hK' _ _ ?_⟩ | refine ⟨?_, ?_, ?_, hK' _ _ ?_⟩) <;> clear hK' K' <;> (first | (show alist _ _ _ _ _ _; skip) | (intro s hs; cases hs; done) | assumption | (simp; done) | omega | (simp; omega) | skip)))) | refine al_e rfl rfl ?_ | refine al_u rfl rfl ?_ | ((fail_if_success (refine al_t rfl rfl fun K' hK' => ?_)); refine al_s _ rfl rfl rfl (fun hb => ?_) (fun hb => ?_)))); all_goals (refine al_nil ?_; (simp only [go_sem, simprocAttr]); refine hK _ ?_; clear hK K))
  refine awp_seq_k fun K hK => ?_
  refine awp_if (decide ((i : Int) < args.length)) rfl (fun hc => ?_) (fun hc => ?_)
  · refine awp_skip ?_
    refine hK _ ?_; clear hK K
    refine awp_seq_k fun K hK => ?_
    refine awp_block ?_
    have hi2 : i < args.length := by simpa using hc
    obtain ⟨x, hget⟩ := get_of_lt hi2
    have hnn : (0 : Int) ≤ (i : Int) := Int.natCast_nonneg i
    have hnx : IntKind.i64.wrap ((i : Int) + 1) = ((i + 1 : Nat) : Int) := wrap_next hi2 hmax
    obtain ⟨hx4, hxs⟩ := hargs x (List.mem_of_getElem? hget)
    have hcall := hF x (List.mem_of_getElem? hget)
    have hacc := depAcc_succ F hget
    obtain ⟨⟨y0, y1, y2, y3⟩, _, rfl, _⟩ := sh57 hxs
    generalize F _ = dm at hcall hacc
    generalize depAcc F (args.take i) = A at *
    simp only [Pat.row, List.map_cons, List.map_nil] at hcall

    (refine awp_reg_seq [3, 5, 7, 8, 9] fun K hK => ?_; (repeat' (first | ((first | refine al_r rfl fun K' hK' => ?_ | refine al_d rfl fun K' hK' => ?_ | refine al_t rfl rfl fun K' hK' => ?_); (repeat (first | (simp only [go_sem, simprocAttr, hget, hnn, hi2, hnx, Int.toNat_natCast, Pat.row]) | refine AS.mk ?_ | refine AAp.grow ?_)); (first | ((first | refine hK' _ _ ?_ | refine ⟨?_, hK' _ _ ?_⟩ | refine ⟨?_, ?_, hK' _ _ ?_⟩ | refine ⟨?_, ?_, ?_, hK' _ _ ?_⟩) <;> clear hK' K' <;> (first | (show alist _ _ _ _ _ _; skip) | (intro s hs; cases hs; done) | assumption | (simp; done) | omega | (simp; omega) | skip)))) | refine al_e rfl rfl ?_ | refine al_u rfl rfl ?_ | ((fail_if_success (refine al_t rfl rfl fun K' hK' => ?_)); refine al_s _ rfl rfl rfl (fun hb => ?_) (fun hb => ?_)))); all_goals (refine al_nil ?_; (simp only [go_sem, simprocAttr, hget, hnn, hi2, hnx, Int.toNat_natCast, Pat.row]); refine hK _ ?_; clear hK K))
    (refine awp_frz [3, 5, 7, 8, 9] [] (by decide) (by simp) ?_; simp only [go_sem, simprocAttr, hget, hnn, hi2, hnx, Int.toNat_natCast, Pat.row])
    (refine awp_reg_end [3, 7, 8, 9] fun K hK => ?_; (repeat' (first | ((first | refine al_r rfl fun K' hK' => ?_ | refine al_d rfl fun K' hK' => ?_ | refine al_t rfl rfl fun K' hK' => ?_); (repeat (first | (simp only [go_sem, simprocAttr, hget, hnn, hi2, hnx, Int.toNat_natCast, Pat.row]) | refine AS.mk ?_ | refine AAp.grow ?_)); (first | ((first | refine hK' _ _ ?_ | refine ⟨?_, hK' _ _ ?_⟩ | refine ⟨?_, ?_, hK' _ _ ?_⟩ | refine ⟨?_, ?_, ?_, hK' _ _ ?_⟩) <;> clear hK' K' <;> (first | (show alist _ _ _ _ _ _; skip) | (intro s hs; cases hs; done) | assumption | (simp; done) | omega | (simp; omega) | skip)) | ((show AC _ _ (D.fn 52 _) _ _); refine acall_p (f := 52) (e := rfl) (hr := rfl) (k := hK' _ _ ?_) (hc := Try.call52) (h := hcall); clear hK' K'))) | refine al_e rfl rfl ?_ | refine al_u rfl rfl ?_ | ((fail_if_success (refine al_t rfl rfl fun K' hK' => ?_)); refine al_s _ rfl rfl rfl (fun hb => ?_) (fun hb => ?_)))); all_goals (refine al_nil ?_; (simp only [go_sem, simprocAttr, hget, hnn, hi2, hnx, Int.toNat_natCast, Pat.row]); refine hK _ ?_; clear hK K))
    refine hK _ ?_; clear hK K
    (refine awp_reg_end [3, 7, 8, 9] fun K hK => ?_; (repeat' (first | ((first | refine al_r rfl fun K' hK' => ?_ | refine al_d rfl fun K' hK' => ?_ | refine al_t rfl rfl fun K' hK' => ?_); (repeat (first | (simp only [go_sem, simprocAttr, hget, hnn, hi2, hnx, Int.toNat_natCast, Pat.row]) | refine AS.mk ?_ | refine AAp.grow ?_)); (first | ((first | refine hK' _ _ ?_ | refine ⟨?_, hK' _ _ ?_⟩ | refine ⟨?_, ?_, hK' _ _ ?_⟩ | refine ⟨?_, ?_, ?_, hK' _ _ ?_⟩) <;> clear hK' K' <;> (first | (show alist _ _ _ _ _ _; skip) | (intro s hs; cases hs; done) | assumption | (simp; done) | omega | (simp; omega) | skip)))) | refine al_e rfl rfl ?_ | refine al_u rfl rfl ?_ | ((fail_if_success (refine al_t rfl rfl fun K' hK' => ?_)); refine al_s _ rfl rfl rfl (fun hb => ?_) (fun hb => ?_)))); all_goals (refine al_nil ?_; (simp only [go_sem, simprocAttr, hget, hnn, hi2, hnx, Int.toNat_natCast, Pat.row]); refine hK _ ?_; clear hK K))
    refine ⟨_, ?_, i + 1, hi2, rfl, ?_⟩
    · omega
    · rw [hacc]

  · have hie : i = args.length := by simp at hc; omega
    subst hie
    rw [List.take_length]
    refine awp_exit ?_
    clear hK
    refine hK _ ?_; clear hK K
    (refine awp_reg_seq [2] fun K hK => ?_; (repeat' (first | ((first | refine al_r rfl fun K' hK' => ?_ | refine al_d rfl fun K' hK' => ?_ | refine al_t rfl rfl fun K' hK' => ?_); (repeat (first | (simp only [go_sem, simprocAttr]) | refine AS.mk ?_ | refine AAp.grow ?_)); (first | ((first | refine hK' _ _ ?_ | refine ⟨?_, hK' _ _ ?_⟩ | refine ⟨?_, ?_, hK' _ _ ?_⟩ | refine ⟨?_, ?_, ?_, hK' _ _ ?_⟩) <;> clear hK' K' <;> (first | (show alist _ _ _ _ _ _; skip) | (intro s hs; cases hs; done) | assumption | (simp; done) | omega | (simp; omega) | skip)))) | refine al_e rfl rfl ?_ | refine al_u rfl rfl ?_ | ((fail_if_success (refine al_t rfl rfl fun K' hK' => ?_)); refine al_s _ rfl rfl rfl (fun hb => ?_) (fun hb => ?_)))); all_goals (refine al_nil ?_; (simp only [go_sem, simprocAttr]); refine hK _ ?_; clear hK K))
    all_goals (refine awp_ret ?_; (first | refine hR _ _ (.inl rfl) rfl ?_ | refine hR _ _ (.inl rfl) rfl ?_ ?_); (first | (simp only [go_sem, simprocAttr, *, Bool.and_true, Bool.and_false, Bool.true_and, Bool.false_and, Bool.or_true, Bool.true_or, Bool.or_false, Bool.false_or, Bool.not_true, Bool.not_false, Bool.false_eq_true]; done) | contradiction | (simp_all; done) | simp only [go_sem, simprocAttr, *, Bool.and_true, Bool.and_false, Bool.true_and, Bool.false_and, Bool.or_true, Bool.true_or, Bool.or_false, Bool.false_or, Bool.not_true, Bool.not_false, Bool.false_eq_true]))


theorem deepPatP (q : Pat) (d : Int) (hd : ACallP Try.prog 52 [patD q] (iD d)) : ACallP Try.prog 26 [patD q] (bD (decide (d > 60))) := by
  refine acallp_fn [2] Try.func26 rfl rfl Try.ntmps26 (by simp) fun R hR => ?_
  (refine awp_reg_seq [1] fun K hK => ?_; (repeat' (first | ((first | refine al_r rfl fun K' hK' => ?_ | refine al_d rfl fun K' hK' => ?_ | refine al_t rfl rfl fun K' hK' => ?_); (repeat (first | (simp only [go_sem, simprocAttr]) | refine AS.mk ?_ | refine AAp.grow ?_)); (first | ((first | refine hK' _ _ ?_ | refine ⟨?_, hK' _ _ ?_⟩ | refine ⟨?_, ?_, hK' _ _ ?_⟩ | refine ⟨?_, ?_, ?_, hK' _ _ ?_⟩) <;> clear hK' K' <;> (first | (show alist _ _ _ _ _ _; skip) | (intro s hs; cases hs; done) | assumption | (simp; done) | omega | (simp; omega) | skip)))) | refine al_e rfl rfl ?_ | refine al_u rfl rfl ?_ | ((fail_if_success (refine al_t rfl rfl fun K' hK' => ?_)); refine al_s _ rfl rfl rfl (fun hb => ?_) (fun hb => ?_)))); all_goals (refine al_nil ?_; (simp only [go_sem, simprocAttr]); refine hK _ ?_; clear hK K))
  (refine awp_frz [1] [] (by decide) (by simp) ?_; simp only [go_sem, simprocAttr])
  (refine awp_reg_seq [2] fun K hK => ?_; (repeat' (first | ((first | refine al_r rfl fun K' hK' => ?_ | refine al_d rfl fun K' hK' => ?_ | refine al_t rfl rfl fun K' hK' => ?_); (repeat (first | (simp only [go_sem, simprocAttr]) | refine AS.mk ?_ | refine AAp.grow ?_)); (first | ((first | refine hK' _ _ ?_ | refine ⟨?_, hK' _ _ ?_⟩ | refine ⟨?_, ?_, hK' _ _ ?_⟩ | refine ⟨?_, ?_, ?_, hK' _ _ ?_⟩) <;> clear hK' K' <;> (first | (show alist _ _ _ _ _ _; skip) | (intro s hs; cases hs; done) | assumption | (simp; done) | omega | (simp; omega) | skip)) | ((show AC _ _ (D.fn 52 _) _ _); refine acall_p (f := 52) (e := rfl) (hr := rfl) (k := hK' _ _ ?_) (hc := Try.call52) (h := hcall); clear hK' K') | ((show AC _ _ (D.fn 52 _) _ _); refine acall_p (f := 52) (e := rfl) (hr := rfl) (k := hK' _ _ ?_) (hc := Try.call52) (h := hd); clear hK' K'))) | refine al_e rfl rfl ?_ | refine al_u rfl rfl ?_ | ((fail_if_success (refine al_t rfl rfl fun K' hK' => ?_)); refine al_s _ rfl rfl rfl (fun hb => ?_) (fun hb => ?_)))); all_goals (refine al_nil ?_; (simp only [go_sem, simprocAttr]); refine hK _ ?_; clear hK K))
  all_goals (refine awp_ret ?_; (first | refine hR _ _ (.inl rfl) rfl ?_ | refine hR _ _ (.inl rfl) rfl ?_ ?_); (first | (simp only [go_sem, simprocAttr, *, Bool.and_true, Bool.and_false, Bool.true_and, Bool.false_and, Bool.or_true, Bool.true_or, Bool.or_false, Bool.false_or, Bool.not_true, Bool.not_false, Bool.false_eq_true]; done) | contradiction | (simp_all; done) | simp only [go_sem, simprocAttr, *, Bool.and_true, Bool.and_false, Bool.true_and, Bool.false_and, Bool.or_true, Bool.true_or, Bool.or_false, Bool.false_or, Bool.not_true, Bool.not_false, Bool.false_eq_true]))


theorem fitsOut (q : Pat) (k n : Int) (t : ByteArray) (a : List (List PV)) (A B : Bool) (hdp : ACallP Try.prog 26 [patD q] (bD A)) (hfl : ACallP Try.prog 20 [valD k n t a] (bD B)) (h : (A || !B) = true) :
    ACallP Try.prog 8 [patD q, valD k n t a] (bD true) := by
  refine acallp_fn [4] Try.func8 rfl rfl Try.ntmps8 (by simp) fun R hR => ?_
  (refine awp_reg_seq [2, 3] fun K hK => ?_; (repeat' (first | ((first | refine al_r rfl fun K' hK' => ?_ | refine al_d rfl fun K' hK' => ?_ | refine al_t rfl rfl fun K' hK' => ?_); (repeat (first | (simp only [go_sem, simprocAttr]) | refine AS.mk ?_ | refine AAp.grow ?_)); (first | ((first | refine hK' _ _ ?_ | refine ⟨?_, hK' _ _ ?_⟩ | refine ⟨?_, ?_, hK' _ _ ?_⟩ | refine ⟨?_, ?_, ?_, hK' _ _ ?_⟩) <;> clear hK' K' <;> (first | (show alist _ _ _ _ _ _; skip) | (intro s hs; cases hs; done) | assumption | (simp; done) | omega | (simp; omega) | skip)))) | refine al_e rfl rfl ?_ | refine al_u rfl rfl ?_ | ((fail_if_success (refine al_t rfl rfl fun K' hK' => ?_)); refine al_s _ rfl rfl rfl (fun hb => ?_) (fun hb => ?_)))); all_goals (refine al_nil ?_; (simp only [go_sem, simprocAttr]); refine hK _ ?_; clear hK K))
  (refine awp_frz [2, 3] [] (by decide) (by simp) ?_; simp only [go_sem, simprocAttr])
  refine awp_seq_k fun K hK => ?_
  refine awp_reg_tov [2, 3, 22] [(22, bD true)] (h := ?_) (k := ?_)
  · cases A <;> cases B <;> first | (cases h; done) | skip
    all_goals ((repeat' (first | ((first | refine al_r rfl fun K' hK' => ?_ | refine al_d rfl fun K' hK' => ?_ | refine al_t rfl rfl fun K' hK' => ?_); (repeat (first | (simp only [go_sem, simprocAttr]) | refine AS.mk ?_ | refine AAp.grow ?_)); (first | ((first | refine hK' _ _ ?_ | refine ⟨?_, hK' _ _ ?_⟩ | refine ⟨?_, ?_, hK' _ _ ?_⟩ | refine ⟨?_, ?_, ?_, hK' _ _ ?_⟩) <;> clear hK' K' <;> (first | (show alist _ _ _ _ _ _; skip) | (intro s hs; cases hs; done) | assumption | (simp; done) | omega | (simp; omega) | skip)) | ((show AC _ _ (D.fn 25 _) _ _); refine acall_p (f := 25) (e := rfl) (hr := rfl) (k := hK' _ _ ?_) (hc := Try.call25) (h := picks); clear hK' K') | ((show AC _ _ (D.fn 26 _) _ _); refine acall_p (f := 26) (e := rfl) (hr := rfl) (k := hK' _ _ ?_) (hc := Try.call26) (h := hdp); clear hK' K') | ((show AC _ _ (D.fn 20 _) _ _); refine acall_p (f := 20) (e := rfl) (hr := rfl) (k := hK' _ _ ?_) (hc := Try.call20) (h := hfl); clear hK' K'))) | refine al_e rfl rfl ?_ | refine al_u rfl rfl ?_ | ((fail_if_success (refine al_t rfl rfl fun K' hK' => ?_)); refine al_s _ rfl rfl rfl (fun hb => ?_) (fun hb => ?_)))); all_goals (refine al_nil ?_; (first | (simp only [go_sem, simprocAttr, *, Bool.and_true, Bool.and_false, Bool.true_and, Bool.false_and, Bool.or_true, Bool.true_or, Bool.or_false, Bool.false_or, Bool.not_true, Bool.not_false, Bool.false_eq_true]; done) | contradiction | (simp_all; done) | simp only [go_sem, simprocAttr, *, Bool.and_true, Bool.and_false, Bool.true_and, Bool.false_and, Bool.or_true, Bool.true_or, Bool.or_false, Bool.false_or, Bool.not_true, Bool.not_false, Bool.false_eq_true])))
  (intro K hK; (simp only [go_sem, simprocAttr]); refine hK _ ?_; clear hK K)
  refine awp_if (_) rfl (fun hc => ?_) (fun hc => ?_)
  · (refine awp_reg_seq [4] fun K hK => ?_; (repeat' (first | ((first | refine al_r rfl fun K' hK' => ?_ | refine al_d rfl fun K' hK' => ?_ | refine al_t rfl rfl fun K' hK' => ?_); (repeat (first | (simp only [go_sem, simprocAttr]) | refine AS.mk ?_ | refine AAp.grow ?_)); (first | ((first | refine hK' _ _ ?_ | refine ⟨?_, hK' _ _ ?_⟩ | refine ⟨?_, ?_, hK' _ _ ?_⟩ | refine ⟨?_, ?_, ?_, hK' _ _ ?_⟩) <;> clear hK' K' <;> (first | (show alist _ _ _ _ _ _; skip) | (intro s hs; cases hs; done) | assumption | (simp; done) | omega | (simp; omega) | skip)) | ((show AC _ _ (D.fn 25 _) _ _); refine acall_p (f := 25) (e := rfl) (hr := rfl) (k := hK' _ _ ?_) (hc := Try.call25) (h := picks); clear hK' K'))) | refine al_e rfl rfl ?_ | refine al_u rfl rfl ?_ | ((fail_if_success (refine al_t rfl rfl fun K' hK' => ?_)); refine al_s _ rfl rfl rfl (fun hb => ?_) (fun hb => ?_)))); all_goals (refine al_nil ?_; (simp only [go_sem, simprocAttr]); refine hK _ ?_; clear hK K))
    all_goals (refine awp_ret ?_; (first | refine hR _ _ (.inl rfl) rfl ?_ | refine hR _ _ (.inl rfl) rfl ?_ ?_); (first | (simp only [go_sem, simprocAttr, *, Bool.and_true, Bool.and_false, Bool.true_and, Bool.false_and, Bool.or_true, Bool.true_or, Bool.or_false, Bool.false_or, Bool.not_true, Bool.not_false, Bool.false_eq_true]; done) | contradiction | (simp_all; done) | simp only [go_sem, simprocAttr, *, Bool.and_true, Bool.and_false, Bool.true_and, Bool.false_and, Bool.or_true, Bool.true_or, Bool.or_false, Bool.false_or, Bool.not_true, Bool.not_false, Bool.false_eq_true]))
  · cases hc


theorem fitsNot (q : Pat) (k n : Int) (t : ByteArray) (a : List (List PV)) (hdp : ACallP Try.prog 26 [patD q] (bD false)) (hfl : ACallP Try.prog 20 [valD k n t a] (bD true))
    (hfi : ACallP Try.prog 27 [patD q, valD k n t a] (.tup [.p (.sl []), bD false])) :
    ACallP Try.prog 8 [patD q, valD k n t a] (bD true) := by
  refine acallp_fn [4] Try.func8 rfl rfl Try.ntmps8 (by simp) fun R hR => ?_
  (refine awp_reg_seq [2, 3] fun K hK => ?_; (repeat' (first | ((first | refine al_r rfl fun K' hK' => ?_ | refine al_d rfl fun K' hK' => ?_ | refine al_t rfl rfl fun K' hK' => ?_); (repeat (first | (simp only [go_sem, simprocAttr]) | refine AS.mk ?_ | refine AAp.grow ?_)); (first | ((first | refine hK' _ _ ?_ | refine ⟨?_, hK' _ _ ?_⟩ | refine ⟨?_, ?_, hK' _ _ ?_⟩ | refine ⟨?_, ?_, ?_, hK' _ _ ?_⟩) <;> clear hK' K' <;> (first | (show alist _ _ _ _ _ _; skip) | (intro s hs; cases hs; done) | assumption | (simp; done) | omega | (simp; omega) | skip)))) | refine al_e rfl rfl ?_ | refine al_u rfl rfl ?_ | ((fail_if_success (refine al_t rfl rfl fun K' hK' => ?_)); refine al_s _ rfl rfl rfl (fun hb => ?_) (fun hb => ?_)))); all_goals (refine al_nil ?_; (simp only [go_sem, simprocAttr]); refine hK _ ?_; clear hK K))
  (refine awp_frz [2, 3] [] (by decide) (by simp) ?_; simp only [go_sem, simprocAttr])
  refine awp_seq_k fun K hK => ?_
  refine awp_reg_tov [2, 3, 22] [(22, bD false)] (h := ?_) (k := ?_)
  · all_goals ((repeat' (first | ((first | refine al_r rfl fun K' hK' => ?_ | refine al_d rfl fun K' hK' => ?_ | refine al_t rfl rfl fun K' hK' => ?_); (repeat (first | (simp only [go_sem, simprocAttr]) | refine AS.mk ?_ | refine AAp.grow ?_)); (first | ((first | refine hK' _ _ ?_ | refine ⟨?_, hK' _ _ ?_⟩ | refine ⟨?_, ?_, hK' _ _ ?_⟩ | refine ⟨?_, ?_, ?_, hK' _ _ ?_⟩) <;> clear hK' K' <;> (first | (show alist _ _ _ _ _ _; skip) | (intro s hs; cases hs; done) | assumption | (simp; done) | omega | (simp; omega) | skip)) | ((show AC _ _ (D.fn 25 _) _ _); refine acall_p (f := 25) (e := rfl) (hr := rfl) (k := hK' _ _ ?_) (hc := Try.call25) (h := picks); clear hK' K') | ((show AC _ _ (D.fn 26 _) _ _); refine acall_p (f := 26) (e := rfl) (hr := rfl) (k := hK' _ _ ?_) (hc := Try.call26) (h := hdp); clear hK' K') | ((show AC _ _ (D.fn 20 _) _ _); refine acall_p (f := 20) (e := rfl) (hr := rfl) (k := hK' _ _ ?_) (hc := Try.call20) (h := hfl); clear hK' K') | ((show AC _ _ (D.fn 25 _) _ _); refine acall_p (f := 25) (e := rfl) (hr := rfl) (k := hK' _ _ ?_) (hc := Try.call25) (h := picks); clear hK' K') | ((show AC _ _ (D.fn 26 _) _ _); refine acall_p (f := 26) (e := rfl) (hr := rfl) (k := hK' _ _ ?_) (hc := Try.call26) (h := hdp); clear hK' K') | ((show AC _ _ (D.fn 20 _) _ _); refine acall_p (f := 20) (e := rfl) (hr := rfl) (k := hK' _ _ ?_) (hc := Try.call20) (h := hfl); clear hK' K'))) | refine al_e rfl rfl ?_ | refine al_u rfl rfl ?_ | ((fail_if_success (refine al_t rfl rfl fun K' hK' => ?_)); refine al_s _ rfl rfl rfl (fun hb => ?_) (fun hb => ?_)))); all_goals (refine al_nil ?_; (first | (simp only [go_sem, simprocAttr, *, Bool.and_true, Bool.and_false, Bool.true_and, Bool.false_and, Bool.or_true, Bool.true_or, Bool.or_false, Bool.false_or, Bool.not_true, Bool.not_false, Bool.false_eq_true]; done) | contradiction | (simp_all; done) | simp only [go_sem, simprocAttr, *, Bool.and_true, Bool.and_false, Bool.true_and, Bool.false_and, Bool.or_true, Bool.true_or, Bool.or_false, Bool.false_or, Bool.not_true, Bool.not_false, Bool.false_eq_true])))
  (intro K hK; (simp only [go_sem, simprocAttr]); refine hK _ ?_; clear hK K)
  refine awp_if (_) rfl (fun hc => ?_) (fun hc => ?_)
  · cases hc
  · refine awp_skip ?_
    refine hK _ ?_; clear hK K
    (refine awp_reg_seq [2, 3, 5, 6] fun K hK => ?_; (repeat' (first | ((first | refine al_r rfl fun K' hK' => ?_ | refine al_d rfl fun K' hK' => ?_ | refine al_t rfl rfl fun K' hK' => ?_); (repeat (first | (simp only [go_sem, simprocAttr]) | refine AS.mk ?_ | refine AAp.grow ?_)); (first | ((first | refine hK' _ _ ?_ | refine ⟨?_, hK' _ _ ?_⟩ | refine ⟨?_, ?_, hK' _ _ ?_⟩ | refine ⟨?_, ?_, ?_, hK' _ _ ?_⟩) <;> clear hK' K' <;> (first | (show alist _ _ _ _ _ _; skip) | (intro s hs; cases hs; done) | assumption | (simp; done) | omega | (simp; omega) | skip)) | ((show AC _ _ (D.fn 27 _) _ _); refine acall_p (f := 27) (e := rfl) (hr := rfl) (k := hK' _ _ ?_) (hc := Try.call27) (h := hfi); clear hK' K'))) | refine al_e rfl rfl ?_ | refine al_u rfl rfl ?_ | ((fail_if_success (refine al_t rfl rfl fun K' hK' => ?_)); refine al_s _ rfl rfl rfl (fun hb => ?_) (fun hb => ?_)))); all_goals (refine al_nil ?_; (simp only [go_sem, simprocAttr]); refine hK _ ?_; clear hK K))
    refine awp_seq_k fun K hK => ?_
    (refine awp_reg_seq [2, 3, 5, 31] fun K hK => ?_; (repeat' (first | ((first | refine al_r rfl fun K' hK' => ?_ | refine al_d rfl fun K' hK' => ?_ | refine al_t rfl rfl fun K' hK' => ?_); (repeat (first | (simp only [go_sem, simprocAttr]) | refine AS.mk ?_ | refine AAp.grow ?_)); (first | ((first | refine hK' _ _ ?_ | refine ⟨?_, hK' _ _ ?_⟩ | refine ⟨?_, ?_, hK' _ _ ?_⟩ | refine ⟨?_, ?_, ?_, hK' _ _ ?_⟩) <;> clear hK' K' <;> (first | (show alist _ _ _ _ _ _; skip) | (intro s hs; cases hs; done) | assumption | (simp; done) | omega | (simp; omega) | skip)))) | refine al_e rfl rfl ?_ | refine al_u rfl rfl ?_ | ((fail_if_success (refine al_t rfl rfl fun K' hK' => ?_)); refine al_s _ rfl rfl rfl (fun hb => ?_) (fun hb => ?_)))); all_goals (refine al_nil ?_; (simp only [go_sem, simprocAttr]); refine hK _ ?_; clear hK K))
    refine awp_if (_) rfl (fun hc => ?_) (fun hc => ?_)
    · (refine awp_reg_seq [4] fun K hK => ?_; (repeat' (first | ((first | refine al_r rfl fun K' hK' => ?_ | refine al_d rfl fun K' hK' => ?_ | refine al_t rfl rfl fun K' hK' => ?_); (repeat (first | (simp only [go_sem, simprocAttr]) | refine AS.mk ?_ | refine AAp.grow ?_)); (first | ((first | refine hK' _ _ ?_ | refine ⟨?_, hK' _ _ ?_⟩ | refine ⟨?_, ?_, hK' _ _ ?_⟩ | refine ⟨?_, ?_, ?_, hK' _ _ ?_⟩) <;> clear hK' K' <;> (first | (show alist _ _ _ _ _ _; skip) | (intro s hs; cases hs; done) | assumption | (simp; done) | omega | (simp; omega) | skip)))) | refine al_e rfl rfl ?_ | refine al_u rfl rfl ?_ | ((fail_if_success (refine al_t rfl rfl fun K' hK' => ?_)); refine al_s _ rfl rfl rfl (fun hb => ?_) (fun hb => ?_)))); all_goals (refine al_nil ?_; (simp only [go_sem, simprocAttr]); refine hK _ ?_; clear hK K))
      all_goals (refine awp_ret ?_; (first | refine hR _ _ (.inl rfl) rfl ?_ | refine hR _ _ (.inl rfl) rfl ?_ ?_); (first | (simp only [go_sem, simprocAttr, *, Bool.and_true, Bool.and_false, Bool.true_and, Bool.false_and, Bool.or_true, Bool.true_or, Bool.or_false, Bool.false_or, Bool.not_true, Bool.not_false, Bool.false_eq_true]; done) | contradiction | (simp_all; done) | simp only [go_sem, simprocAttr, *, Bool.and_true, Bool.and_false, Bool.true_and, Bool.false_and, Bool.or_true, Bool.true_or, Bool.or_false, Bool.false_or, Bool.not_true, Bool.not_false, Bool.false_eq_true]))
    · cases hc


theorem fitsYes (q qq : Pat) (k n : Int) (t : ByteArray) (a L : List (List PV)) (hdp : ACallP Try.prog 26 [patD q] (bD false)) (hfl : ACallP Try.prog 20 [valD k n t a] (bD true))
    (hfi : ACallP Try.prog 27 [patD q, valD k n t a] (.tup [.p (.sl L), bD true])) (hcl : ACallP Try.prog 28 [patD q, .p (.sl L)] (.tup [patD qq, .p (.sl []), bD true]))
    (hfq : ACallP Try.prog 27 [patD qq, valD k n t a] (.tup [.p (.sl []), bD true])) :
    ACallP Try.prog 8 [patD q, valD k n t a] (bD true) := by
  refine acallp_fn [4] Try.func8 rfl rfl Try.ntmps8 (by simp) fun R hR => ?_
  (refine awp_reg_seq [2, 3] fun K hK => ?_; (repeat' (first | ((first | refine al_r rfl fun K' hK' => ?_ | refine al_d rfl fun K' hK' => ?_ | refine al_t rfl rfl fun K' hK' => ?_); (repeat (first | (simp only [go_sem, simprocAttr]) | refine AS.mk ?_ | refine AAp.grow ?_)); (first | ((first | refine hK' _ _ ?_ | refine ⟨?_, hK' _ _ ?_⟩ | refine ⟨?_, ?_, hK' _ _ ?_⟩ | refine ⟨?_, ?_, ?_, hK' _ _ ?_⟩) <;> clear hK' K' <;> (first | (show alist _ _ _ _ _ _; skip) | (intro s hs; cases hs; done) | assumption | (simp; done) | omega | (simp; omega) | skip)))) | refine al_e rfl rfl ?_ | refine al_u rfl rfl ?_ | ((fail_if_success (refine al_t rfl rfl fun K' hK' => ?_)); refine al_s _ rfl rfl rfl (fun hb => ?_) (fun hb => ?_)))); all_goals (refine al_nil ?_; (simp only [go_sem, simprocAttr]); refine hK _ ?_; clear hK K))
  (refine awp_frz [2, 3] [] (by decide) (by simp) ?_; simp only [go_sem, simprocAttr])
  refine awp_seq_k fun K hK => ?_
  refine awp_reg_tov [2, 3, 22] [(22, bD false)] (h := ?_) (k := ?_)
  · all_goals ((repeat' (first | ((first | refine al_r rfl fun K' hK' => ?_ | refine al_d rfl fun K' hK' => ?_ | refine al_t rfl rfl fun K' hK' => ?_); (repeat (first | (simp only [go_sem, simprocAttr]) | refine AS.mk ?_ | refine AAp.grow ?_)); (first | ((first | refine hK' _ _ ?_ | refine ⟨?_, hK' _ _ ?_⟩ | refine ⟨?_, ?_, hK' _ _ ?_⟩ | refine ⟨?_, ?_, ?_, hK' _ _ ?_⟩) <;> clear hK' K' <;> (first | (show alist _ _ _ _ _ _; skip) | (intro s hs; cases hs; done) | assumption | (simp; done) | omega | (simp; omega) | skip)) | ((show AC _ _ (D.fn 25 _) _ _); refine acall_p (f := 25) (e := rfl) (hr := rfl) (k := hK' _ _ ?_) (hc := Try.call25) (h := picks); clear hK' K') | ((show AC _ _ (D.fn 26 _) _ _); refine acall_p (f := 26) (e := rfl) (hr := rfl) (k := hK' _ _ ?_) (hc := Try.call26) (h := hdp); clear hK' K') | ((show AC _ _ (D.fn 20 _) _ _); refine acall_p (f := 20) (e := rfl) (hr := rfl) (k := hK' _ _ ?_) (hc := Try.call20) (h := hfl); clear hK' K') | ((show AC _ _ (D.fn 25 _) _ _); refine acall_p (f := 25) (e := rfl) (hr := rfl) (k := hK' _ _ ?_) (hc := Try.call25) (h := picks); clear hK' K') | ((show AC _ _ (D.fn 26 _) _ _); refine acall_p (f := 26) (e := rfl) (hr := rfl) (k := hK' _ _ ?_) (hc := Try.call26) (h := hdp); clear hK' K') | ((show AC _ _ (D.fn 20 _) _ _); refine acall_p (f := 20) (e := rfl) (hr := rfl) (k := hK' _ _ ?_) (hc := Try.call20) (h := hfl); clear hK' K') | ((show AC _ _ (D.fn 25 _) _ _); refine acall_p (f := 25) (e := rfl) (hr := rfl) (k := hK' _ _ ?_) (hc := Try.call25) (h := picks); clear hK' K') | ((show AC _ _ (D.fn 26 _) _ _); refine acall_p (f := 26) (e := rfl) (hr := rfl) (k := hK' _ _ ?_) (hc := Try.call26) (h := hdp); clear hK' K') | ((show AC _ _ (D.fn 20 _) _ _); refine acall_p (f := 20) (e := rfl) (hr := rfl) (k := hK' _ _ ?_) (hc := Try.call20) (h := hfl); clear hK' K'))) | refine al_e rfl rfl ?_ | refine al_u rfl rfl ?_ | ((fail_if_success (refine al_t rfl rfl fun K' hK' => ?_)); refine al_s _ rfl rfl rfl (fun hb => ?_) (fun hb => ?_)))); all_goals (refine al_nil ?_; (first | (simp only [go_sem, simprocAttr, *, Bool.and_true, Bool.and_false, Bool.true_and, Bool.false_and, Bool.or_true, Bool.true_or, Bool.or_false, Bool.false_or, Bool.not_true, Bool.not_false, Bool.false_eq_true]; done) | contradiction | (simp_all; done) | simp only [go_sem, simprocAttr, *, Bool.and_true, Bool.and_false, Bool.true_and, Bool.false_and, Bool.or_true, Bool.true_or, Bool.or_false, Bool.false_or, Bool.not_true, Bool.not_false, Bool.false_eq_true])))
  (intro K hK; (simp only [go_sem, simprocAttr]); refine hK _ ?_; clear hK K)
  refine awp_if (_) rfl (fun hc => ?_) (fun hc => ?_)
  · cases hc
  · refine awp_skip ?_
    refine hK _ ?_; clear hK K
    (refine awp_reg_seq [2, 3, 5, 6] fun K hK => ?_; (repeat' (first | ((first | refine al_r rfl fun K' hK' => ?_ | refine al_d rfl fun K' hK' => ?_ | refine al_t rfl rfl fun K' hK' => ?_); (repeat (first | (simp only [go_sem, simprocAttr]) | refine AS.mk ?_ | refine AAp.grow ?_)); (first | ((first | refine hK' _ _ ?_ | refine ⟨?_, hK' _ _ ?_⟩ | refine ⟨?_, ?_, hK' _ _ ?_⟩ | refine ⟨?_, ?_, ?_, hK' _ _ ?_⟩) <;> clear hK' K' <;> (first | (show alist _ _ _ _ _ _; skip) | (intro s hs; cases hs; done) | assumption | (simp; done) | omega | (simp; omega) | skip)) | ((show AC _ _ (D.fn 27 _) _ _); refine acall_p (f := 27) (e := rfl) (hr := rfl) (k := hK' _ _ ?_) (hc := Try.call27) (h := hfi); clear hK' K') | ((show AC _ _ (D.fn 27 _) _ _); refine acall_p (f := 27) (e := rfl) (hr := rfl) (k := hK' _ _ ?_) (hc := Try.call27) (h := hfi); clear hK' K') | ((show AC _ _ (D.fn 27 _) _ _); refine acall_p (f := 27) (e := rfl) (hr := rfl) (k := hK' _ _ ?_) (hc := Try.call27) (h := hfq); clear hK' K'))) | refine al_e rfl rfl ?_ | refine al_u rfl rfl ?_ | ((fail_if_success (refine al_t rfl rfl fun K' hK' => ?_)); refine al_s _ rfl rfl rfl (fun hb => ?_) (fun hb => ?_)))); all_goals (refine al_nil ?_; (simp only [go_sem, simprocAttr]); refine hK _ ?_; clear hK K))
    refine awp_seq_k fun K hK => ?_
    (refine awp_reg_seq [2, 3, 5, 31] fun K hK => ?_; (repeat' (first | ((first | refine al_r rfl fun K' hK' => ?_ | refine al_d rfl fun K' hK' => ?_ | refine al_t rfl rfl fun K' hK' => ?_); (repeat (first | (simp only [go_sem, simprocAttr]) | refine AS.mk ?_ | refine AAp.grow ?_)); (first | ((first | refine hK' _ _ ?_ | refine ⟨?_, hK' _ _ ?_⟩ | refine ⟨?_, ?_, hK' _ _ ?_⟩ | refine ⟨?_, ?_, ?_, hK' _ _ ?_⟩) <;> clear hK' K' <;> (first | (show alist _ _ _ _ _ _; skip) | (intro s hs; cases hs; done) | assumption | (simp; done) | omega | (simp; omega) | skip)))) | refine al_e rfl rfl ?_ | refine al_u rfl rfl ?_ | ((fail_if_success (refine al_t rfl rfl fun K' hK' => ?_)); refine al_s _ rfl rfl rfl (fun hb => ?_) (fun hb => ?_)))); all_goals (refine al_nil ?_; (simp only [go_sem, simprocAttr]); refine hK _ ?_; clear hK K))
    refine awp_if (_) rfl (fun hc => ?_) (fun hc => ?_)
    · cases hc
    · refine awp_skip ?_
      refine hK _ ?_; clear hK K
      (refine awp_reg_seq [3, 7, 8, 9] fun K hK => ?_; (repeat' (first | ((first | refine al_r rfl fun K' hK' => ?_ | refine al_d rfl fun K' hK' => ?_ | refine al_t rfl rfl fun K' hK' => ?_); (repeat (first | (simp only [go_sem, simprocAttr]) | refine AS.mk ?_ | refine AAp.grow ?_)); (first | ((first | refine hK' _ _ ?_ | refine ⟨?_, hK' _ _ ?_⟩ | refine ⟨?_, ?_, hK' _ _ ?_⟩ | refine ⟨?_, ?_, ?_, hK' _ _ ?_⟩) <;> clear hK' K' <;> (first | (show alist _ _ _ _ _ _; skip) | (intro s hs; cases hs; done) | assumption | (simp; done) | omega | (simp; omega) | skip)) | ((show AC _ _ (D.fn 28 _) _ _); refine acall_p (f := 28) (e := rfl) (hr := rfl) (k := hK' _ _ ?_) (hc := Try.call28) (h := hcl); clear hK' K'))) | refine al_e rfl rfl ?_ | refine al_u rfl rfl ?_ | ((fail_if_success (refine al_t rfl rfl fun K' hK' => ?_)); refine al_s _ rfl rfl rfl (fun hb => ?_) (fun hb => ?_)))); all_goals (refine al_nil ?_; (simp only [go_sem, simprocAttr]); refine hK _ ?_; clear hK K))
      (refine awp_frz [3, 7, 8, 9] [] (by decide) (by simp) ?_; simp only [go_sem, simprocAttr])
      refine awp_seq_k fun K hK => ?_
      refine awp_reg_tov [3, 7, 48] [(48, bD false)] (h := ?_) (k := ?_)
      · all_goals ((repeat' (first | ((first | refine al_r rfl fun K' hK' => ?_ | refine al_d rfl fun K' hK' => ?_ | refine al_t rfl rfl fun K' hK' => ?_); (repeat (first | (simp only [go_sem, simprocAttr]) | refine AS.mk ?_ | refine AAp.grow ?_)); (first | ((first | refine hK' _ _ ?_ | refine ⟨?_, hK' _ _ ?_⟩ | refine ⟨?_, ?_, hK' _ _ ?_⟩ | refine ⟨?_, ?_, ?_, hK' _ _ ?_⟩) <;> clear hK' K' <;> (first | (show alist _ _ _ _ _ _; skip) | (intro s hs; cases hs; done) | assumption | (simp; done) | omega | (simp; omega) | skip)))) | refine al_e rfl rfl ?_ | refine al_u rfl rfl ?_ | ((fail_if_success (refine al_t rfl rfl fun K' hK' => ?_)); refine al_s _ rfl rfl rfl (fun hb => ?_) (fun hb => ?_)))); all_goals (refine al_nil ?_; (first | (simp only [go_sem, simprocAttr, *, Bool.and_true, Bool.and_false, Bool.true_and, Bool.false_and, Bool.or_true, Bool.true_or, Bool.or_false, Bool.false_or, Bool.not_true, Bool.not_false, Bool.false_eq_true]; done) | contradiction | (simp_all; done) | simp only [go_sem, simprocAttr, *, Bool.and_true, Bool.and_false, Bool.true_and, Bool.false_and, Bool.or_true, Bool.true_or, Bool.or_false, Bool.false_or, Bool.not_true, Bool.not_false, Bool.false_eq_true])))
      (intro K hK; (simp only [go_sem, simprocAttr]); refine hK _ ?_; clear hK K)
      refine awp_if (_) rfl (fun hc => ?_) (fun hc => ?_)
      · cases hc
      · refine awp_skip ?_
        refine hK _ ?_; clear hK K
        (refine awp_reg_seq [10, 11] fun K hK => ?_; (repeat' (first | ((first | refine al_r rfl fun K' hK' => ?_ | refine al_d rfl fun K' hK' => ?_ | refine al_t rfl rfl fun K' hK' => ?_); (repeat (first | (simp only [go_sem, simprocAttr]) | refine AS.mk ?_ | refine AAp.grow ?_)); (first | ((first | refine hK' _ _ ?_ | refine ⟨?_, hK' _ _ ?_⟩ | refine ⟨?_, ?_, hK' _ _ ?_⟩ | refine ⟨?_, ?_, ?_, hK' _ _ ?_⟩) <;> clear hK' K' <;> (first | (show alist _ _ _ _ _ _; skip) | (intro s hs; cases hs; done) | assumption | (simp; done) | omega | (simp; omega) | skip)) | ((show AC _ _ (D.fn 27 _) _ _); refine acall_p (f := 27) (e := rfl) (hr := rfl) (k := hK' _ _ ?_) (hc := Try.call27) (h := hfi); clear hK' K') | ((show AC _ _ (D.fn 27 _) _ _); refine acall_p (f := 27) (e := rfl) (hr := rfl) (k := hK' _ _ ?_) (hc := Try.call27) (h := hfi); clear hK' K') | ((show AC _ _ (D.fn 27 _) _ _); refine acall_p (f := 27) (e := rfl) (hr := rfl) (k := hK' _ _ ?_) (hc := Try.call27) (h := hfq); clear hK' K'))) | refine al_e rfl rfl ?_ | refine al_u rfl rfl ?_ | ((fail_if_success (refine al_t rfl rfl fun K' hK' => ?_)); refine al_s _ rfl rfl rfl (fun hb => ?_) (fun hb => ?_)))); all_goals (refine al_nil ?_; (simp only [go_sem, simprocAttr]); refine hK _ ?_; clear hK K))
        refine awp_reg_tov [4] [(4, bD true)] (h := ?_) (k := ?_)
        · all_goals ((repeat' (first | ((first | refine al_r rfl fun K' hK' => ?_ | refine al_d rfl fun K' hK' => ?_ | refine al_t rfl rfl fun K' hK' => ?_); (repeat (first | (simp only [go_sem, simprocAttr]) | refine AS.mk ?_ | refine AAp.grow ?_)); (first | ((first | refine hK' _ _ ?_ | refine ⟨?_, hK' _ _ ?_⟩ | refine ⟨?_, ?_, hK' _ _ ?_⟩ | refine ⟨?_, ?_, ?_, hK' _ _ ?_⟩) <;> clear hK' K' <;> (first | (show alist _ _ _ _ _ _; skip) | (intro s hs; cases hs; done) | assumption | (simp; done) | omega | (simp; omega) | skip)))) | refine al_e rfl rfl ?_ | refine al_u rfl rfl ?_ | ((fail_if_success (refine al_t rfl rfl fun K' hK' => ?_)); refine al_s _ rfl rfl rfl (fun hb => ?_) (fun hb => ?_)))); all_goals (refine al_nil ?_; (first | (simp only [go_sem, simprocAttr, *, Bool.and_true, Bool.and_false, Bool.true_and, Bool.false_and, Bool.or_true, Bool.true_or, Bool.or_false, Bool.false_or, Bool.not_true, Bool.not_false, Bool.false_eq_true]; done) | contradiction | (simp_all; done) | simp only [go_sem, simprocAttr, *, Bool.and_true, Bool.and_false, Bool.true_and, Bool.false_and, Bool.or_true, Bool.true_or, Bool.or_false, Bool.false_or, Bool.not_true, Bool.not_false, Bool.false_eq_true])))
        (intro K hK; (simp only [go_sem, simprocAttr]); refine hK _ ?_; clear hK K)
        all_goals (refine awp_ret ?_; (first | refine hR _ _ (.inl rfl) rfl ?_ | refine hR _ _ (.inl rfl) rfl ?_ ?_); (first | (simp only [go_sem, simprocAttr, *, Bool.and_true, Bool.and_false, Bool.true_and, Bool.false_and, Bool.or_true, Bool.true_or, Bool.or_false, Bool.false_or, Bool.not_true, Bool.not_false, Bool.false_eq_true]; done) | contradiction | (simp_all; done) | simp only [go_sem, simprocAttr, *, Bool.and_true, Bool.and_false, Bool.true_and, Bool.false_and, Bool.or_true, Bool.true_or, Bool.or_false, Bool.false_or, Bool.not_true, Bool.not_false, Bool.false_eq_true]))

theorem pickFits (q : Pat) (ys : List PV) (f g : Nat) (hq : shapeOk Try.prog f 57 q.row) (hys : shapeOk Try.prog g 34 ys) (hsz : pvRow q.row ≤ 1048576) : ACallP Try.prog 8 [patD q, .agg (ys.map .p)] (bD true) := by
  obtain ⟨d, hd⟩ := depthP f _ hq
  have hdp := deepPatP q d hd
  obtain ⟨k, n, t, a, g2, rfl, _⟩ := sh34 hys
  obtain ⟨b, hfl⟩ := flatP ⟨0, 0, 0, 0, ByteArray.empty, k, n, t, a⟩ ⟨g, hys⟩
  by_cases h : (decide (d > 60) || !b) = true
  · exact fitsOut q k n t a _ b hdp hfl h
  · simp at h
    obtain ⟨h1, rfl⟩ := h
    have h60 : decide (d > 60) = false := by simp; omega
    rw [h60] at hdp
    obtain ⟨⟨L, b⟩, hF⟩ := fitting f _ _ g hq hys hsz
    have hc := hF.call
    cases b with
    | false =>
      have h0 := hF.none rfl
      simp only at h0
      subst h0
      exact fitsNot q k n t a hdp hfl hc
    | true =>
      obtain ⟨qq, h1, h2⟩ := hF.ok rfl
      have h3 := h2 [] fun z hz => by cases hz
      rw [List.append_nil] at h3
      exact fitsYes q qq k n t a L hdp hfl hc h3 h1
end Go.Proofs.Ytofbhmcmejhepaa.P
/- Are two values, two letters, two lists of letters the same: told ahead. -/
namespace Go.Proofs.Ytofbhmcmejhepaa.P
open Go.Ab Go.Proofs.Ytofbhmcmejhepaa.T

theorem allB_succ {Bs : List Bool} {i : Nat} {b : Bool} (h : Bs[i]? = some b) : (Bs.take (i + 1)).all id = ((Bs.take i).all id && b) := by
  rw [List.take_add_one, h, List.all_append]; simp

theorem allB_not {Bs : List Bool} {i : Nat} {b : Bool} (h : Bs[i]? = some b) (hb : b = false) : Bs.all id = false := by
  cases hA : Bs.all id with
  | false => rfl
  | true =>
    have := List.all_eq_true.1 hA b (List.mem_of_getElem? h)
    rw [hb] at this; cases this


theorem sameNo (k n k2 n2 : Int) (t t2 : ByteArray) (a a2 : List (List PV)) (h : (k != k2 || n != n2 || !(t.toList == t2.toList) || (a.length : Int) != (a2.length : Int)) = true) :
    ACallP Try.prog 58 [valD k n t a, valD k2 n2 t2 a2] (bD false) := by
  obtain ⟨A, hA⟩ : ∃ A, (k != k2) = A := ⟨_, rfl⟩
  obtain ⟨B, hB⟩ : ∃ B, (n != n2) = B := ⟨_, rfl⟩
  obtain ⟨C, hC⟩ : ∃ C, (t.toList == t2.toList) = C := ⟨_, rfl⟩
  obtain ⟨E, hE⟩ : ∃ E, ((a.length : Int) != (a2.length : Int)) = E := ⟨_, rfl⟩
  rw [hA, hB, hC, hE] at h
  refine acallp_fn [4] Try.func58 rfl rfl Try.ntmps58 (by simp) fun R hR => ?_
  (refine awp_reg_seq [2, 3] fun K hK => ?_; (repeat' (first | ((first | refine al_r rfl fun K' hK' => ?_ | refine al_d rfl fun K' hK' => ?_ | refine al_t rfl rfl fun K' hK' => ?_); (repeat (first | (simp only [go_sem, simprocAttr]) | refine AS.mk ?_ | refine AAp.grow ?_)); (first | ((first | refine hK' _ _ ?_ | refine ⟨?_, hK' _ _ ?_⟩ | refine ⟨?_, ?_, hK' _ _ ?_⟩ | refine ⟨?_, ?_, ?_, hK' _ _ ?_⟩) <;> clear hK' K' <;> (first | (show alist _ _ _ _ _ _; skip) | (intro s hs; cases hs; done) | assumption | (simp; done) | omega | (simp; omega) | skip)))) | refine al_e rfl rfl ?_ | refine al_u rfl rfl ?_ | ((fail_if_success (refine al_t rfl rfl fun K' hK' => ?_)); refine al_s _ rfl rfl rfl (fun hb => ?_) (fun hb => ?_)))); all_goals (refine al_nil ?_; (simp only [go_sem, simprocAttr]); refine hK _ ?_; clear hK K))
  (refine awp_frz [2, 3] [] (by decide) (by simp) ?_; simp only [go_sem, simprocAttr])
  refine awp_seq_k fun K hK => ?_

  refine awp_reg_tov [2, 3, 33] [(33, bD true)] (h := ?_) (k := ?_)
  · cases A <;> cases B <;> cases C <;> cases E <;> first | (cases h; done) | skip
    all_goals ((repeat' (first | ((first | refine al_r rfl fun K' hK' => ?_ | refine al_d rfl fun K' hK' => ?_ | refine al_t rfl rfl fun K' hK' => ?_); (repeat (first | (simp only [go_sem, simprocAttr, hA, hB, hC, hE]) | refine AS.mk ?_ | refine AAp.grow ?_)); (first | ((first | refine hK' _ _ ?_ | refine ⟨?_, hK' _ _ ?_⟩ | refine ⟨?_, ?_, hK' _ _ ?_⟩ | refine ⟨?_, ?_, ?_, hK' _ _ ?_⟩) <;> clear hK' K' <;> (first | (show alist _ _ _ _ _ _; skip) | (intro s hs; cases hs; done) | assumption | (simp; done) | omega | (simp; omega) | skip)))) | refine al_e rfl rfl ?_ | refine al_u rfl rfl ?_ | ((fail_if_success (refine al_t rfl rfl fun K' hK' => ?_)); refine al_s _ rfl rfl rfl (fun hb => ?_) (fun hb => ?_)))); all_goals (refine al_nil ?_; (first | (simp only [go_sem, simprocAttr, hA, hB, hC, hE, *, Bool.and_true, Bool.and_false, Bool.true_and, Bool.false_and, Bool.or_true, Bool.true_or, Bool.or_false, Bool.false_or, Bool.not_true, Bool.not_false, Bool.false_eq_true]; done) | contradiction | (simp_all; done) | simp only [go_sem, simprocAttr, hA, hB, hC, hE, *, Bool.and_true, Bool.and_false, Bool.true_and, Bool.false_and, Bool.or_true, Bool.true_or, Bool.or_false, Bool.false_or, Bool.not_true, Bool.not_false, Bool.false_eq_true])))
  (intro K hK; (simp only [go_sem, simprocAttr, hA, hB, hC, hE]); refine hK _ ?_; clear hK K)
  refine awp_if (_) rfl (fun hc => ?_) (fun hc => ?_)
  · (refine awp_reg_seq [4] fun K hK => ?_; (repeat' (first | ((first | refine al_r rfl fun K' hK' => ?_ | refine al_d rfl fun K' hK' => ?_ | refine al_t rfl rfl fun K' hK' => ?_); (repeat (first | (simp only [go_sem, simprocAttr, hA, hB, hC, hE]) | refine AS.mk ?_ | refine AAp.grow ?_)); (first | ((first | refine hK' _ _ ?_ | refine ⟨?_, hK' _ _ ?_⟩ | refine ⟨?_, ?_, hK' _ _ ?_⟩ | refine ⟨?_, ?_, ?_, hK' _ _ ?_⟩) <;> clear hK' K' <;> (first | (show alist _ _ _ _ _ _; skip) | (intro s hs; cases hs; done) | assumption | (simp; done) | omega | (simp; omega) | skip)))) | refine al_e rfl rfl ?_ | refine al_u rfl rfl ?_ | ((fail_if_success (refine al_t rfl rfl fun K' hK' => ?_)); refine al_s _ rfl rfl rfl (fun hb => ?_) (fun hb => ?_)))); all_goals (refine al_nil ?_; (simp only [go_sem, simprocAttr, hA, hB, hC, hE]); refine hK _ ?_; clear hK K))
    all_goals (refine awp_ret ?_; (first | refine hR _ _ (.inl rfl) rfl ?_ | refine hR _ _ (.inl rfl) rfl ?_ ?_); (first | (simp only [go_sem, simprocAttr, hA, hB, hC, hE, *, Bool.and_true, Bool.and_false, Bool.true_and, Bool.false_and, Bool.or_true, Bool.true_or, Bool.or_false, Bool.false_or, Bool.not_true, Bool.not_false, Bool.false_eq_true]; done) | contradiction | (simp_all; done) | simp only [go_sem, simprocAttr, hA, hB, hC, hE, *, Bool.and_true, Bool.and_false, Bool.true_and, Bool.false_and, Bool.or_true, Bool.true_or, Bool.or_false, Bool.false_or, Bool.not_true, Bool.not_false, Bool.false_eq_true]))
  · cases hc


theorem sameYes (k n k2 n2 : Int) (t t2 : ByteArray) (a a2 : List (List PV)) (Bs : List Bool) (h : (k != k2 || n != n2 || !(t.toList == t2.toList) || (a.length : Int) != (a2.length : Int)) = false)
    (hq : ∀ r, r ∈ a → IsVal r) (hq2 : ∀ r, r ∈ a2 → IsVal r) (hmax : a.length ≤ maxLen) (hl : Bs.length = a.length)
    (hF : ∀ (i : Nat) x y b, a[i]? = some x → a2[i]? = some y → Bs[i]? = some b → ACallP Try.prog 58 [.agg (x.map .p), .agg (y.map .p)] (bD b)) :
    ACallP Try.prog 58 [valD k n t a, valD k2 n2 t2 a2] (bD (Bs.all id)) := by
  obtain ⟨A, hA⟩ : ∃ A, (k != k2) = A := ⟨_, rfl⟩
  obtain ⟨B, hB⟩ : ∃ B, (n != n2) = B := ⟨_, rfl⟩
  obtain ⟨C, hC⟩ : ∃ C, (t.toList == t2.toList) = C := ⟨_, rfl⟩
  obtain ⟨E, hE⟩ : ∃ E, ((a.length : Int) != (a2.length : Int)) = E := ⟨_, rfl⟩
  have hal : a2.length = a.length := by simp at h; omega
  rw [hA, hB, hC, hE] at h
  obtain ⟨V, hV⟩ : ∃ V, V = Bs.all id := ⟨_, rfl⟩
  rw [← hV]
  refine acallp_fn [4] Try.func58 rfl rfl Try.ntmps58 (by simp) fun R hR => ?_
  (refine awp_reg_seq [2, 3] fun K hK => ?_; (repeat' (first | ((first | refine al_r rfl fun K' hK' => ?_ | refine al_d rfl fun K' hK' => ?_ | refine al_t rfl rfl fun K' hK' => ?_); (repeat (first | (simp only [go_sem, simprocAttr]) | refine AS.mk ?_ | refine AAp.grow ?_)); (first | ((first | refine hK' _ _ ?_ | refine ⟨?_, hK' _ _ ?_⟩ | refine ⟨?_, ?_, hK' _ _ ?_⟩ | refine ⟨?_, ?_, ?_, hK' _ _ ?_⟩) <;> clear hK' K' <;> (first | (show alist _ _ _ _ _ _; skip) | (intro s hs; cases hs; done) | assumption | (simp; done) | omega | (simp; omega) | skip)))) | refine al_e rfl rfl ?_ | refine al_u rfl rfl ?_ | ((fail_if_success (refine al_t rfl rfl fun K' hK' => ?_)); refine al_s _ rfl rfl rfl (fun hb => ?_) (fun hb => ?_)))); all_goals (refine al_nil ?_; (simp only [go_sem, simprocAttr]); refine hK _ ?_; clear hK K))
  (refine awp_frz [2, 3] [] (by decide) (by simp) ?_; simp only [go_sem, simprocAttr])
  refine awp_seq_k fun K hK => ?_

  refine awp_reg_tov [2, 3, 33] [(33, bD false)] (h := ?_) (k := ?_)
  · cases A <;> cases B <;> cases C <;> cases E <;> first | (cases h; done) | skip
    all_goals ((repeat' (first | ((first | refine al_r rfl fun K' hK' => ?_ | refine al_d rfl fun K' hK' => ?_ | refine al_t rfl rfl fun K' hK' => ?_); (repeat (first | (simp only [go_sem, simprocAttr, hA, hB, hC, hE]) | refine AS.mk ?_ | refine AAp.grow ?_)); (first | ((first | refine hK' _ _ ?_ | refine ⟨?_, hK' _ _ ?_⟩ | refine ⟨?_, ?_, hK' _ _ ?_⟩ | refine ⟨?_, ?_, ?_, hK' _ _ ?_⟩) <;> clear hK' K' <;> (first | (show alist _ _ _ _ _ _; skip) | (intro s hs; cases hs; done) | assumption | (simp; done) | omega | (simp; omega) | skip)))) | refine al_e rfl rfl ?_ | refine al_u rfl rfl ?_ | ((fail_if_success (refine al_t rfl rfl fun K' hK' => ?_)); refine al_s _ rfl rfl rfl (fun hb => ?_) (fun hb => ?_)))); all_goals (refine al_nil ?_; (first | (simp only [go_sem, simprocAttr, hA, hB, hC, hE, *, Bool.and_true, Bool.and_false, Bool.true_and, Bool.false_and, Bool.or_true, Bool.true_or, Bool.or_false, Bool.false_or, Bool.not_true, Bool.not_false, Bool.false_eq_true]; done) | contradiction | (simp_all; done) | simp only [go_sem, simprocAttr, hA, hB, hC, hE, *, Bool.and_true, Bool.and_false, Bool.true_and, Bool.false_and, Bool.or_true, Bool.true_or, Bool.or_false, Bool.false_or, Bool.not_true, Bool.not_false, Bool.false_eq_true])))
  (intro K hK; (simp only [go_sem, simprocAttr, hA, hB, hC, hE]); refine hK _ ?_; clear hK K)
  refine awp_if (_) rfl (fun hc => ?_) (fun hc => ?_)
  · cases hc
  · refine awp_skip ?_
    refine hK _ ?_; clear hK K
    refine awp_seq_k fun K hK => ?_
    (refine awp_reg_seq [2, 3, 36, 37] fun K hK => ?_; (repeat' (first | ((first | refine al_r rfl fun K' hK' => ?_ | refine al_d rfl fun K' hK' => ?_ | refine al_t rfl rfl fun K' hK' => ?_); (repeat (first | (simp only [go_sem, simprocAttr, hA, hB, hC, hE]) | refine AS.mk ?_ | refine AAp.grow ?_)); (first | ((first | refine hK' _ _ ?_ | refine ⟨?_, hK' _ _ ?_⟩ | refine ⟨?_, ?_, hK' _ _ ?_⟩ | refine ⟨?_, ?_, ?_, hK' _ _ ?_⟩) <;> clear hK' K' <;> (first | (show alist _ _ _ _ _ _; skip) | (intro s hs; cases hs; done) | assumption | (simp; done) | omega | (simp; omega) | skip)))) | refine al_e rfl rfl ?_ | refine al_u rfl rfl ?_ | ((fail_if_success (refine al_t rfl rfl fun K' hK' => ?_)); refine al_s _ rfl rfl rfl (fun hb => ?_) (fun hb => ?_)))); all_goals (refine al_nil ?_; (simp only [go_sem, simprocAttr, hA, hB, hC, hE]); refine hK _ ?_; clear hK K))
    refine awp_block ?_
    -- loop 0 head [2, 3, 36, 37]
    refine awp_loop_cut (fun m s => ∃ i : Nat, i ≤ a.length ∧ m = a.length - i ∧ (Bs.take i).all id = true ∧ s = ⟨ofL [(2, .rd [.lit (.int .i64 k), .lit (.int .i64 n), .lit (.string t), .sl a] 0), (3, .rd [.lit (.int .i64 k2), .lit (.int .i64 n2), .lit (.string t2), .sl a2] 0), (36, iD a.length), (37, iD i)], [], 0⟩) ⟨_, 0, Nat.zero_le _, rfl, rfl, rfl⟩ ?_
    rintro m s ⟨i, hi, hm, hall, rfl⟩
    (refine awp_reg_seq [2, 3, 36, 37, 38] fun K hK => ?_; (repeat' (first | ((first | refine al_r rfl fun K' hK' => ?_ | refine al_d rfl fun K' hK' => ?_ | refine al_t rfl rfl fun K' hK' => ?_); (repeat (first | (simp only [go_sem, simprocAttr, hA, hB, hC, hE]) | refine AS.mk ?_ | refine AAp.grow ?_)); (first | ((first | refine hK' _ _ ?_ | refine ⟨?_, hK' _ _ ?_⟩ | refine ⟨?_, ?_, hK' _ _ ?_⟩ | refine ⟨?_, ?_, ?_, hK' _ _ ?_⟩) <;> clear hK' K' <;> (first | (show alist _ _ _ _ _ _; skip) | (intro s hs; cases hs; done) | assumption | (simp; done) | omega | (simp; omega) | skip)))) | refine al_e rfl rfl ?_ | refine al_u rfl rfl ?_ | ((fail_if_success (refine al_t rfl rfl fun K' hK' => ?_)); refine al_s _ rfl rfl rfl (fun hb => ?_) (fun hb => ?_)))); all_goals (refine al_nil ?_; (simp only [go_sem, simprocAttr, hA, hB, hC, hE]); refine hK _ ?_; clear hK K))
    refine awp_seq_k fun K hK => ?_
    refine awp_if (decide ((i : Int) < (a.length : Int))) rfl (fun hc => ?_) (fun hc => ?_)
    · refine awp_skip ?_
      refine hK _ ?_; clear hK K
      refine awp_seq_k fun K hK => ?_
      refine awp_block ?_
      have hi2 : i < a.length := by simpa using hc
      obtain ⟨x, hget⟩ := get_of_lt hi2
      obtain ⟨y, hgeta⟩ := get_of_lt (l := a2) (i := i) (by omega)
      obtain ⟨b, hgetb⟩ := get_of_lt (l := Bs) (i := i) (by omega)
      have hnn : (0 : Int) ≤ (i : Int) := Int.natCast_nonneg i
      have hnx : IntKind.i64.wrap ((i : Int) + 1) = ((i + 1 : Nat) : Int) := wrap_next hi2 hmax
      have hcall := hF i x y b hget hgeta hgetb
      obtain ⟨xk, xn, xt, xa, rfl⟩ := hq x (List.mem_of_getElem? hget)
      obtain ⟨yk, yn, yt, ya, rfl⟩ := hq2 y (List.mem_of_getElem? hgeta)
      have hi3 : i < a2.length := by omega
      have hal2 := allB_succ hgetb
      have hno := allB_not hgetb
      simp only [List.map_cons, List.map_nil] at hcall
      rw [hall, Bool.true_and] at hal2

      (refine awp_reg_seq [2, 3, 5, 36, 37] fun K hK => ?_; (repeat' (first | ((first | refine al_r rfl fun K' hK' => ?_ | refine al_d rfl fun K' hK' => ?_ | refine al_t rfl rfl fun K' hK' => ?_); (repeat (first | (simp only [go_sem, simprocAttr, hget, hgeta, hnn, hi2, hi3, hnx, Int.toNat_natCast]) | refine AS.mk ?_ | refine AAp.grow ?_)); (first | ((first | refine hK' _ _ ?_ | refine ⟨?_, hK' _ _ ?_⟩ | refine ⟨?_, ?_, hK' _ _ ?_⟩ | refine ⟨?_, ?_, ?_, hK' _ _ ?_⟩) <;> clear hK' K' <;> (first | (show alist _ _ _ _ _ _; skip) | (intro s hs; cases hs; done) | assumption | (simp; done) | omega | (simp; omega) | skip)))) | refine al_e rfl rfl ?_ | refine al_u rfl rfl ?_ | ((fail_if_success (refine al_t rfl rfl fun K' hK' => ?_)); refine al_s _ rfl rfl rfl (fun hb => ?_) (fun hb => ?_)))); all_goals (refine al_nil ?_; (simp only [go_sem, simprocAttr, hget, hgeta, hnn, hi2, hi3, hnx, Int.toNat_natCast]); refine hK _ ?_; clear hK K))
      refine awp_draw_tov (by kernel_rfl) [2, 3, 36, 37, 51] [(51, bD !b)] (h := ?_) (k := ?_)
      · all_goals (first | (first | refine ah_r 0 rfl (by kernel_rfl) rfl fun K' hK' => ?_ | refine ah_t 0 rfl (by kernel_rfl) rfl rfl fun K' hK' => ?_); (simp only [go_sem, simprocAttr, hget, hgeta, hnn, hi2, hi3, hnx, Int.toNat_natCast]); (first | (refine hK' _ ?_); clear hK' K' | ((first | refine ⟨?_, hK' _ ?_⟩ | refine ⟨?_, ?_, hK' _ ?_⟩) <;> clear hK' K' <;> (first | (show alist _ _ _ _ _ _; skip) | (intro s hs; cases hs; done) | assumption | (simp; done) | omega | (simp; omega) | skip))) | refine ah_e 0 rfl (by kernel_rfl) rfl rfl ?_ | refine ah_u 0 rfl (by kernel_rfl) rfl rfl ?_)
        all_goals (first | (first | refine ah_r 1 rfl (by kernel_rfl) rfl fun K' hK' => ?_ | refine ah_t 1 rfl (by kernel_rfl) rfl rfl fun K' hK' => ?_); (simp only [go_sem, simprocAttr, hget, hgeta, hnn, hi2, hi3, hnx, Int.toNat_natCast]); (first | (refine hK' _ ?_); clear hK' K' | ((first | refine ⟨?_, hK' _ ?_⟩ | refine ⟨?_, ?_, hK' _ ?_⟩) <;> clear hK' K' <;> (first | (show alist _ _ _ _ _ _; skip) | (intro s hs; cases hs; done) | assumption | (simp; done) | omega | (simp; omega) | skip))) | refine ah_e 1 rfl (by kernel_rfl) rfl rfl ?_ | refine ah_u 1 rfl (by kernel_rfl) rfl rfl ?_)
        all_goals (first | (first | refine ah_r 2 rfl (by kernel_rfl) rfl fun K' hK' => ?_ | refine ah_t 2 rfl (by kernel_rfl) rfl rfl fun K' hK' => ?_); (simp only [go_sem, simprocAttr, hget, hgeta, hnn, hi2, hi3, hnx, Int.toNat_natCast]); (first | (refine hK' _ ?_); clear hK' K' | ((first | refine ⟨?_, hK' _ ?_⟩ | refine ⟨?_, ?_, hK' _ ?_⟩) <;> clear hK' K' <;> (first | (show alist _ _ _ _ _ _; skip) | (intro s hs; cases hs; done) | assumption | (simp; done) | omega | (simp; omega) | skip))) | refine ah_e 2 rfl (by kernel_rfl) rfl rfl ?_ | refine ah_u 2 rfl (by kernel_rfl) rfl rfl ?_)
        all_goals (first | (first | refine ah_r 3 rfl (by kernel_rfl) rfl fun K' hK' => ?_ | refine ah_t 3 rfl (by kernel_rfl) rfl rfl fun K' hK' => ?_); (simp only [go_sem, simprocAttr, hget, hgeta, hnn, hi2, hi3, hnx, Int.toNat_natCast]); (first | (refine hK' _ ?_); clear hK' K' | ((first | refine ⟨?_, hK' _ ?_⟩ | refine ⟨?_, ?_, hK' _ ?_⟩) <;> clear hK' K' <;> (first | (show alist _ _ _ _ _ _; skip) | (intro s hs; cases hs; done) | assumption | (simp; done) | omega | (simp; omega) | skip))) | refine ah_e 3 rfl (by kernel_rfl) rfl rfl ?_ | refine ah_u 3 rfl (by kernel_rfl) rfl rfl ?_)
        all_goals (first | (first | refine ah_r 4 rfl (by kernel_rfl) rfl fun K' hK' => ?_ | refine ah_t 4 rfl (by kernel_rfl) rfl rfl fun K' hK' => ?_); (simp only [go_sem, simprocAttr, hget, hgeta, hnn, hi2, hi3, hnx, Int.toNat_natCast]); (first | (refine hK' _ ?_); clear hK' K' | ((first | refine ⟨?_, hK' _ ?_⟩ | refine ⟨?_, ?_, hK' _ ?_⟩) <;> clear hK' K' <;> (first | (show alist _ _ _ _ _ _; skip) | (intro s hs; cases hs; done) | assumption | (simp; done) | omega | (simp; omega) | skip))) | refine ah_e 4 rfl (by kernel_rfl) rfl rfl ?_ | refine ah_u 4 rfl (by kernel_rfl) rfl rfl ?_)
        all_goals (first | (first | refine ah_r 5 rfl (by kernel_rfl) rfl fun K' hK' => ?_ | refine ah_t 5 rfl (by kernel_rfl) rfl rfl fun K' hK' => ?_); (simp only [go_sem, simprocAttr, hget, hgeta, hnn, hi2, hi3, hnx, Int.toNat_natCast]); (first | (refine hK' _ ?_); clear hK' K' | ((first | refine ⟨?_, hK' _ ?_⟩ | refine ⟨?_, ?_, hK' _ ?_⟩) <;> clear hK' K' <;> (first | (show alist _ _ _ _ _ _; skip) | (intro s hs; cases hs; done) | assumption | (simp; done) | omega | (simp; omega) | skip))) | refine ah_e 5 rfl (by kernel_rfl) rfl rfl ?_ | refine ah_u 5 rfl (by kernel_rfl) rfl rfl ?_)
        all_goals (first | (first | refine ah_r 6 rfl (by kernel_rfl) rfl fun K' hK' => ?_ | refine ah_t 6 rfl (by kernel_rfl) rfl rfl fun K' hK' => ?_); (simp only [go_sem, simprocAttr, hget, hgeta, hnn, hi2, hi3, hnx, Int.toNat_natCast]); (first | (refine hK' _ ?_); clear hK' K' | ((first | refine ⟨?_, hK' _ ?_⟩ | refine ⟨?_, ?_, hK' _ ?_⟩) <;> clear hK' K' <;> (first | (show alist _ _ _ _ _ _; skip) | (intro s hs; cases hs; done) | assumption | (simp; done) | omega | (simp; omega) | skip))) | refine ah_e 6 rfl (by kernel_rfl) rfl rfl ?_ | refine ah_u 6 rfl (by kernel_rfl) rfl rfl ?_)
        all_goals (first | (first | refine ah_r 7 rfl (by kernel_rfl) rfl fun K' hK' => ?_ | refine ah_t 7 rfl (by kernel_rfl) rfl rfl fun K' hK' => ?_); (simp only [go_sem, simprocAttr, hget, hgeta, hnn, hi2, hi3, hnx, Int.toNat_natCast]); (first | (refine hK' _ ?_); clear hK' K' | ((first | refine ⟨?_, hK' _ ?_⟩ | refine ⟨?_, ?_, hK' _ ?_⟩) <;> clear hK' K' <;> (first | (show alist _ _ _ _ _ _; skip) | (intro s hs; cases hs; done) | assumption | (simp; done) | omega | (simp; omega) | skip))) | refine ah_e 7 rfl (by kernel_rfl) rfl rfl ?_ | refine ah_u 7 rfl (by kernel_rfl) rfl rfl ?_)
        all_goals (first | (first | refine ah_r 8 rfl (by kernel_rfl) rfl fun K' hK' => ?_ | refine ah_t 8 rfl (by kernel_rfl) rfl rfl fun K' hK' => ?_); (simp only [go_sem, simprocAttr, hget, hgeta, hnn, hi2, hi3, hnx, Int.toNat_natCast]); (first | (refine hK' _ ?_); clear hK' K' | ((first | refine ⟨?_, hK' _ ?_⟩ | refine ⟨?_, ?_, hK' _ ?_⟩) <;> clear hK' K' <;> (first | (show alist _ _ _ _ _ _; skip) | (intro s hs; cases hs; done) | assumption | (simp; done) | omega | (simp; omega) | skip))) | refine ah_e 8 rfl (by kernel_rfl) rfl rfl ?_ | refine ah_u 8 rfl (by kernel_rfl) rfl rfl ?_)
        all_goals (first | (first | refine ah_r 9 rfl (by kernel_rfl) rfl fun K' hK' => ?_ | refine ah_t 9 rfl (by kernel_rfl) rfl rfl fun K' hK' => ?_); (simp only [go_sem, simprocAttr, hget, hgeta, hnn, hi2, hi3, hnx, Int.toNat_natCast]); (first | (refine hK' _ ?_); clear hK' K' | ((first | refine ⟨?_, hK' _ ?_⟩ | refine ⟨?_, ?_, hK' _ ?_⟩) <;> clear hK' K' <;> (first | (show alist _ _ _ _ _ _; skip) | (intro s hs; cases hs; done) | assumption | (simp; done) | omega | (simp; omega) | skip))) | refine ah_e 9 rfl (by kernel_rfl) rfl rfl ?_ | refine ah_u 9 rfl (by kernel_rfl) rfl rfl ?_)
        all_goals (refine ah_one 10 rfl (by kernel_rfl) ?_; (repeat' (first | ((first | refine al_r rfl fun K' hK' => ?_ | refine al_d rfl fun K' hK' => ?_ | refine al_t rfl rfl fun K' hK' => ?_); (repeat (first | (simp only [go_sem, simprocAttr, hget, hgeta, hnn, hi2, hi3, hnx, Int.toNat_natCast]) | refine AS.mk ?_ | refine AAp.grow ?_)); (first | ((first | refine hK' _ _ ?_ | refine ⟨?_, hK' _ _ ?_⟩ | refine ⟨?_, ?_, hK' _ _ ?_⟩ | refine ⟨?_, ?_, ?_, hK' _ _ ?_⟩) <;> clear hK' K' <;> (first | (show alist _ _ _ _ _ _; skip) | (intro s hs; cases hs; done) | assumption | (simp; done) | omega | (simp; omega) | skip)) | ((show AC _ _ (D.fn 58 _) _ _); refine acall_p (f := 58) (e := rfl) (hr := rfl) (k := hK' _ _ ?_) (hc := Try.call58) (h := hcall); clear hK' K'))) | refine al_e rfl rfl ?_ | refine al_u rfl rfl ?_ | ((fail_if_success (refine al_t rfl rfl fun K' hK' => ?_)); refine al_s _ rfl rfl rfl (fun hb => ?_) (fun hb => ?_)))); all_goals refine al_nil ?_)
        all_goals (first | (first | refine ah_r 11 rfl (by kernel_rfl) rfl fun K' hK' => ?_ | refine ah_t 11 rfl (by kernel_rfl) rfl rfl fun K' hK' => ?_); (simp only [go_sem, simprocAttr, hget, hgeta, hnn, hi2, hi3, hnx, Int.toNat_natCast]); (first | (refine hK' _ ?_); clear hK' K' | ((first | refine ⟨?_, hK' _ ?_⟩ | refine ⟨?_, ?_, hK' _ ?_⟩) <;> clear hK' K' <;> (first | (show alist _ _ _ _ _ _; skip) | (intro s hs; cases hs; done) | assumption | (simp; done) | omega | (simp; omega) | skip))) | refine ah_e 11 rfl (by kernel_rfl) rfl rfl ?_ | refine ah_u 11 rfl (by kernel_rfl) rfl rfl ?_)
        all_goals (refine ah_done (by kernel_rfl) ?_; simp only [go_sem, simprocAttr, hget, hgeta, hnn, hi2, hi3, hnx, Int.toNat_natCast, *, Bool.and_true, Bool.and_false, Bool.true_and, Bool.false_and, Bool.or_true, Bool.true_or, Bool.or_false, Bool.false_or, Bool.not_true, Bool.not_false, Bool.false_eq_true])
      (intro K hK; (simp only [go_sem, simprocAttr, hget, hgeta, hnn, hi2, hi3, hnx, Int.toNat_natCast]); refine hK _ ?_; clear hK K)
      refine awp_if (!b) rfl (fun hc => ?_) (fun hc => ?_)
      · (refine awp_reg_seq [4] fun K hK => ?_; (repeat' (first | ((first | refine al_r rfl fun K' hK' => ?_ | refine al_d rfl fun K' hK' => ?_ | refine al_t rfl rfl fun K' hK' => ?_); (repeat (first | (simp only [go_sem, simprocAttr, hget, hgeta, hnn, hi2, hi3, hnx, Int.toNat_natCast]) | refine AS.mk ?_ | refine AAp.grow ?_)); (first | ((first | refine hK' _ _ ?_ | refine ⟨?_, hK' _ _ ?_⟩ | refine ⟨?_, ?_, hK' _ _ ?_⟩ | refine ⟨?_, ?_, ?_, hK' _ _ ?_⟩) <;> clear hK' K' <;> (first | (show alist _ _ _ _ _ _; skip) | (intro s hs; cases hs; done) | assumption | (simp; done) | omega | (simp; omega) | skip)))) | refine al_e rfl rfl ?_ | refine al_u rfl rfl ?_ | ((fail_if_success (refine al_t rfl rfl fun K' hK' => ?_)); refine al_s _ rfl rfl rfl (fun hb => ?_) (fun hb => ?_)))); all_goals (refine al_nil ?_; (simp only [go_sem, simprocAttr, hget, hgeta, hnn, hi2, hi3, hnx, Int.toNat_natCast]); refine hK _ ?_; clear hK K))
        refine awp_ret ?_; (first | refine hR _ _ (.inl rfl) rfl ?_ | refine hR _ _ (.inl rfl) rfl ?_ ?_)
        rw [hV, hno (by simpa using hc)]
        simp only [go_sem, simprocAttr, hget, hgeta, hnn, hi2, hi3, hnx, Int.toNat_natCast]
      · refine awp_skip ?_
        refine hK _ ?_; clear hK K
        (refine awp_reg_end [2, 3, 36, 37] fun K hK => ?_; (repeat' (first | ((first | refine al_r rfl fun K' hK' => ?_ | refine al_d rfl fun K' hK' => ?_ | refine al_t rfl rfl fun K' hK' => ?_); (repeat (first | (simp only [go_sem, simprocAttr, hget, hgeta, hnn, hi2, hi3, hnx, Int.toNat_natCast]) | refine AS.mk ?_ | refine AAp.grow ?_)); (first | ((first | refine hK' _ _ ?_ | refine ⟨?_, hK' _ _ ?_⟩ | refine ⟨?_, ?_, hK' _ _ ?_⟩ | refine ⟨?_, ?_, ?_, hK' _ _ ?_⟩) <;> clear hK' K' <;> (first | (show alist _ _ _ _ _ _; skip) | (intro s hs; cases hs; done) | assumption | (simp; done) | omega | (simp; omega) | skip)))) | refine al_e rfl rfl ?_ | refine al_u rfl rfl ?_ | ((fail_if_success (refine al_t rfl rfl fun K' hK' => ?_)); refine al_s _ rfl rfl rfl (fun hb => ?_) (fun hb => ?_)))); all_goals (refine al_nil ?_; (simp only [go_sem, simprocAttr, hget, hgeta, hnn, hi2, hi3, hnx, Int.toNat_natCast]); refine hK _ ?_; clear hK K))
        refine ⟨a.length - (i + 1), by omega, [2, 3, 36, 37], [], by decide, by intro q hq; exact absurd hq (Nat.not_lt_zero q), i + 1, hi2, rfl, by rw [hal2]; simpa using hc, ?_⟩
        simp only [go_sem, simprocAttr, hget, hgeta, hnn, hi2, hi3, hnx, Int.toNat_natCast]

    · have hie : i = Bs.length := by simp at hc; omega
      rw [hie, List.take_length] at hall
      refine awp_exit ?_
      clear hK
      refine hK _ ?_; clear hK K
      (refine awp_reg_seq [4] fun K hK => ?_; (repeat' (first | ((first | refine al_r rfl fun K' hK' => ?_ | refine al_d rfl fun K' hK' => ?_ | refine al_t rfl rfl fun K' hK' => ?_); (repeat (first | (simp only [go_sem, simprocAttr]) | refine AS.mk ?_ | refine AAp.grow ?_)); (first | ((first | refine hK' _ _ ?_ | refine ⟨?_, hK' _ _ ?_⟩ | refine ⟨?_, ?_, hK' _ _ ?_⟩ | refine ⟨?_, ?_, ?_, hK' _ _ ?_⟩) <;> clear hK' K' <;> (first | (show alist _ _ _ _ _ _; skip) | (intro s hs; cases hs; done) | assumption | (simp; done) | omega | (simp; omega) | skip)))) | refine al_e rfl rfl ?_ | refine al_u rfl rfl ?_ | ((fail_if_success (refine al_t rfl rfl fun K' hK' => ?_)); refine al_s _ rfl rfl rfl (fun hb => ?_) (fun hb => ?_)))); all_goals (refine al_nil ?_; (simp only [go_sem, simprocAttr]); refine hK _ ?_; clear hK K))
      refine awp_ret ?_; (first | refine hR _ _ (.inl rfl) rfl ?_ | refine hR _ _ (.inl rfl) rfl ?_ ?_)
      rw [hV, hall]
      simp only [go_sem, simprocAttr]

theorem sameEx : ∀ (f : Nat) (xs ys : List PV) (g : Nat), shapeOk Try.prog f 34 xs → shapeOk Try.prog g 34 ys → ∃ b, ACallP Try.prog 58 [.agg (xs.map .p), .agg (ys.map .p)] (bD b) := by
  intro f
  induction f using Nat.strongRecOn
  rename_i f ih
  intro xs ys g hxs hys
  obtain ⟨k, n, t, a, g1, rfl, hg1, ham, haa⟩ := sh34 hxs
  obtain ⟨k2, n2, t2, a2, g2, rfl, hg2, ham2, haa2⟩ := sh34 hys
  have hq : ∀ r, r ∈ a → IsVal r := fun r hr => by
    obtain ⟨k', n', t', a', _, e, _⟩ := sh34 (haa r hr).2
    exact ⟨k', n', t', a', e⟩
  have hq2 : ∀ r, r ∈ a2 → IsVal r := fun r hr => by
    obtain ⟨k', n', t', a', _, e, _⟩ := sh34 (haa2 r hr).2
    exact ⟨k', n', t', a', e⟩
  cases h : (k != k2 || n != n2 || !(t.toList == t2.toList) || (a.length : Int) != (a2.length : Int)) with
  | true => exact ⟨false, sameNo k n k2 n2 t t2 a a2 h⟩
  | false =>
    have hal : a2.length = a.length := by simp at h; omega
    obtain ⟨Bs, hl, hBs⟩ := list_of a.length (fun i (b : Bool) => ∀ x y, a[i]? = some x → a2[i]? = some y → ACallP Try.prog 58 [.agg (x.map .p), .agg (y.map .p)] (bD b)) fun i hi => by
      obtain ⟨x, hx⟩ := get_of_lt hi
      obtain ⟨y, hy⟩ := get_of_lt (l := a2) (i := i) (by omega)
      obtain ⟨b, hb⟩ := ih g1 hg1 x y g2 (haa x (List.mem_of_getElem? hx)).2 (haa2 y (List.mem_of_getElem? hy)).2
      refine ⟨b, fun x' y' hx' hy' => ?_⟩
      rw [hx] at hx'; cases hx'; rw [hy] at hy'; cases hy'
      exact hb
    exact ⟨_, sameYes k n k2 n2 t t2 a a2 Bs h hq hq2 ham hl fun i x y b hx hy hb => hBs i b hb x y hx hy⟩


theorem sameLetterAs (x y : Letter) (b : Bool) (hv : ACallP Try.prog 58 [.agg [iD x.vkind, iD x.vnum, .p (.lit (.string x.vtext)), .p (.sl x.vargs)], .agg [iD y.vkind, iD y.vnum, .p (.lit (.string y.vtext)), .p (.sl y.vargs)]] (bD b)) :
    ACallP Try.prog 36 [letterD x, letterD y] (bD (x.kind == y.kind && x.src == y.src && x.dst == y.dst && x.num == y.num && x.text.toList == y.text.toList && b)) := by
  obtain ⟨A, hA⟩ : ∃ A, (x.kind == y.kind) = A := ⟨_, rfl⟩
  obtain ⟨B, hB⟩ : ∃ B, (x.src == y.src) = B := ⟨_, rfl⟩
  obtain ⟨C, hC⟩ : ∃ C, (x.dst == y.dst) = C := ⟨_, rfl⟩
  obtain ⟨E, hE⟩ : ∃ E, (x.num == y.num) = E := ⟨_, rfl⟩
  obtain ⟨G, hG⟩ : ∃ G, (x.text.toList == y.text.toList) = G := ⟨_, rfl⟩
  rw [hA, hB, hC, hE, hG]
  refine acallp_fn [4] Try.func36 rfl rfl Try.ntmps36 (by simp) fun R hR => ?_
  (refine awp_reg_seq [2, 3] fun K hK => ?_; (repeat' (first | ((first | refine al_r rfl fun K' hK' => ?_ | refine al_d rfl fun K' hK' => ?_ | refine al_t rfl rfl fun K' hK' => ?_); (repeat (first | (simp only [go_sem, simprocAttr]) | refine AS.mk ?_ | refine AAp.grow ?_)); (first | ((first | refine hK' _ _ ?_ | refine ⟨?_, hK' _ _ ?_⟩ | refine ⟨?_, ?_, hK' _ _ ?_⟩ | refine ⟨?_, ?_, ?_, hK' _ _ ?_⟩) <;> clear hK' K' <;> (first | (show alist _ _ _ _ _ _; skip) | (intro s hs; cases hs; done) | assumption | (simp; done) | omega | (simp; omega) | skip)))) | refine al_e rfl rfl ?_ | refine al_u rfl rfl ?_ | ((fail_if_success (refine al_t rfl rfl fun K' hK' => ?_)); refine al_s _ rfl rfl rfl (fun hb => ?_) (fun hb => ?_)))); all_goals (refine al_nil ?_; (simp only [go_sem, simprocAttr]); refine hK _ ?_; clear hK K))
  (refine awp_frz [2, 3] [] (by decide) (by simp) ?_; simp only [go_sem, simprocAttr])

  refine awp_reg_tov [4] [(4, bD (A && B && C && E && G && b))] (h := ?_) (k := ?_)
  · cases A <;> cases B <;> cases C <;> cases E <;> cases G
    all_goals ((repeat' (first | ((first | refine al_r rfl fun K' hK' => ?_ | refine al_d rfl fun K' hK' => ?_ | refine al_t rfl rfl fun K' hK' => ?_); (repeat (first | (simp only [go_sem, simprocAttr, hA, hB, hC, hE, hG]) | refine AS.mk ?_ | refine AAp.grow ?_)); (first | ((first | refine hK' _ _ ?_ | refine ⟨?_, hK' _ _ ?_⟩ | refine ⟨?_, ?_, hK' _ _ ?_⟩ | refine ⟨?_, ?_, ?_, hK' _ _ ?_⟩) <;> clear hK' K' <;> (first | (show alist _ _ _ _ _ _; skip) | (intro s hs; cases hs; done) | assumption | (simp; done) | omega | (simp; omega) | skip)) | ((show AC _ _ (D.fn 58 _) _ _); refine acall_p (f := 58) (e := rfl) (hr := rfl) (k := hK' _ _ ?_) (hc := Try.call58) (h := hcall); clear hK' K') | ((show AC _ _ (D.fn 58 _) _ _); refine acall_p (f := 58) (e := rfl) (hr := rfl) (k := hK' _ _ ?_) (hc := Try.call58) (h := hv); clear hK' K'))) | refine al_e rfl rfl ?_ | refine al_u rfl rfl ?_ | ((fail_if_success (refine al_t rfl rfl fun K' hK' => ?_)); refine al_s _ rfl rfl rfl (fun hb => ?_) (fun hb => ?_)))); all_goals (refine al_nil ?_; (first | (simp only [go_sem, simprocAttr, hA, hB, hC, hE, hG, *, Bool.and_true, Bool.and_false, Bool.true_and, Bool.false_and, Bool.or_true, Bool.true_or, Bool.or_false, Bool.false_or, Bool.not_true, Bool.not_false, Bool.false_eq_true]; done) | contradiction | (simp_all; done) | simp only [go_sem, simprocAttr, hA, hB, hC, hE, hG, *, Bool.and_true, Bool.and_false, Bool.true_and, Bool.false_and, Bool.or_true, Bool.true_or, Bool.or_false, Bool.false_or, Bool.not_true, Bool.not_false, Bool.false_eq_true])))
  (intro K hK; (simp only [go_sem, simprocAttr, hA, hB, hC, hE, hG]); refine hK _ ?_; clear hK K)
  all_goals (refine awp_ret ?_; (first | refine hR _ _ (.inl rfl) rfl ?_ | refine hR _ _ (.inl rfl) rfl ?_ ?_); (first | (simp only [go_sem, simprocAttr, hA, hB, hC, hE, hG, *, Bool.and_true, Bool.and_false, Bool.true_and, Bool.false_and, Bool.or_true, Bool.true_or, Bool.or_false, Bool.false_or, Bool.not_true, Bool.not_false, Bool.false_eq_true]; done) | contradiction | (simp_all; done) | simp only [go_sem, simprocAttr, hA, hB, hC, hE, hG, *, Bool.and_true, Bool.and_false, Bool.true_and, Bool.false_and, Bool.or_true, Bool.true_or, Bool.or_false, Bool.false_or, Bool.not_true, Bool.not_false, Bool.false_eq_true]))

theorem sameLetterEx (x y : Letter) (hx : Shaped x) (hy : Shaped y) : ∃ b, ACallP Try.prog 36 [letterD x, letterD y] (bD b) := by
  obtain ⟨g, hx⟩ := hx
  obtain ⟨g2, hy⟩ := hy
  obtain ⟨b, hb⟩ := sameEx g _ _ g2 hx hy
  exact ⟨_, sameLetterAs x y b hb⟩
end Go.Proofs.Ytofbhmcmejhepaa.P
