/- What the function of the statement HeapAll answers. -/
import Derived.Test.YtagphggcdmjlpaaH6
set_option linter.unusedSimpArgs false
set_option linter.unusedVariables false
set_option maxHeartbeats 1000000
namespace Go.Proofs.Ytagphggcdmjlpaa.P
open Go.Ab Go.Proofs.Ytagphggcdmjlpaa.T

/-- Objects that lie one behind the other in a heap, from a place on to its end. -/
def Chain (h : List Int) : Nat → List Obj → Prop
  | a, [] => a = h.length
  | a, o :: l => o.at_ = a ∧ rightS o = true ∧ encW o = (h.drop a).take (encW o).length ∧ a + (encW o).length ≤ h.length ∧ Chain h (a + (encW o).length) l

theorem objF_chain {h : List Int} (hlen : h.length ≤ maxLen) (hok : ∀ w, w ∈ h → WordOk w) : ∀ (f a : Nat) (acc l : List Obj), h.length - a < f → a ≤ h.length → objF h f a acc = (l, 0) → ∃ l', l = acc ++ l' ∧ Chain h a l'
  | 0, a, acc, l, hf, _, _ => by omega
  | f + 1, a, acc, l, hf, ha, h1 => by
    unfold objF at h1
    by_cases hlt : a < h.length
    · rw [if_pos hlt] at h1
      by_cases he : ((atS h a).2 != 0) = true
      · rw [if_pos he] at h1; cases h1
      · rw [if_neg he] at h1
        obtain ⟨n, hn, hnl, hoa, hri, h4, h5, h6⟩ := at_ok (by simpa using he) hlen hok
        obtain rfl : a = n := by omega
        have hel := enc_len (atS h a).1
        rw [← hel] at h1
        have hpos : 1 ≤ (encW (atS h a).1).length := by simp [encW]
        obtain ⟨l', hl, hc⟩ := objF_chain hlen hok f _ _ l (by omega) h5 h1
        exact ⟨(atS h a).1 :: l', by rw [hl]; simp, hoa, hri, h6, h5, hc⟩
    · rw [if_neg hlt] at h1
      cases h1
      exact ⟨[], by simp, by show a = h.length; omega⟩

theorem put_chain {h : List Int} {a : Nat} {o : Obj} (h4 : h.length ≤ 4000) (hri : rightS o = true) (h1 : encW o = (h.drop a).take (encW o).length) (h2 : a + (encW o).length ≤ h.length) :
    putS (h.take a) o = (h.take (a + (encW o).length), (a : Int), 0) := by
  have hel := enc_len o
  unfold putS
  rw [hri, ← hel]
  have hl : (h.take a).length = a := by rw [List.length_take]; omega
  rw [if_neg (by simp), if_neg (by rw [hl]; simp; omega), hl]
  have : h.take a ++ encW o = h.take (a + (encW o).length) := by
    rw [h1, List.length_take, List.length_drop, Nat.min_eq_left (by omega), ← List.take_add]
  rw [this]


theorem allBad (h : List Int) (e : Int) (he : (e != 0) = true) (hob : ACallP Try.prog 15 [words h] (.tup [objs [], iD e])) : ACallP Try.prog 3 [words h] (bD true) := by
  refine acallp_fn [2] Try.func3 rfl rfl Try.ntmps3 (by simp) fun R hR => ?_
  (refine awp_reg_seq [0] fun K hK => ?_; (repeat' (first | ((first | refine al_r rfl fun K' hK' => ?_ | refine al_d rfl fun K' hK' => ?_ | refine al_t rfl rfl fun K' hK' => ?_); (repeat (first | (simp only [go_sem, simprocAttr, List.length_map, List.length_nil, he, beq_self_eq_true]) | refine AS.mk ?_ | refine AAp.grow ?_)); (first | ((first | refine hK' _ _ ?_ | refine ⟨?_, hK' _ _ ?_⟩ | refine ⟨?_, ?_, hK' _ _ ?_⟩ | refine ⟨?_, ?_, ?_, hK' _ _ ?_⟩) <;> clear hK' K' <;> (first | (show alist _ _ _ _ _ _; skip) | (intro s hs; cases hs; done) | assumption | (simp; done) | omega | (simp; omega) | skip)))) | refine al_e rfl rfl ?_ | refine al_u rfl rfl ?_ | ((fail_if_success (refine al_t rfl rfl fun K' hK' => ?_)); refine al_s _ rfl rfl rfl (fun hb => ?_) (fun hb => ?_)))); all_goals (refine al_nil ?_; (simp only [go_sem, simprocAttr, List.length_map, List.length_nil, he, beq_self_eq_true]); refine hK _ ?_; clear hK K))
  (refine awp_reg_seq [0, 3, 4] fun K hK => ?_; (repeat' (first | ((first | refine al_r rfl fun K' hK' => ?_ | refine al_d rfl fun K' hK' => ?_ | refine al_t rfl rfl fun K' hK' => ?_); (repeat (first | (simp only [go_sem, simprocAttr, List.length_map, List.length_nil, he, beq_self_eq_true]) | refine AS.mk ?_ | refine AAp.grow ?_)); (first | ((first | refine hK' _ _ ?_ | refine ⟨?_, hK' _ _ ?_⟩ | refine ⟨?_, ?_, hK' _ _ ?_⟩ | refine ⟨?_, ?_, ?_, hK' _ _ ?_⟩) <;> clear hK' K' <;> (first | (show alist _ _ _ _ _ _; skip) | (intro s hs; cases hs; done) | assumption | (simp; done) | omega | (simp; omega) | skip)) | ((show AC _ _ (D.fn 15 _) _ _); refine acall_p (f := 15) (e := rfl) (hr := rfl) (k := hK' _ _ ?_) (hc := Try.call15) (h := hob); clear hK' K'))) | refine al_e rfl rfl ?_ | refine al_u rfl rfl ?_ | ((fail_if_success (refine al_t rfl rfl fun K' hK' => ?_)); refine al_s _ rfl rfl rfl (fun hb => ?_) (fun hb => ?_)))); all_goals (refine al_nil ?_; (simp only [go_sem, simprocAttr, List.length_map, List.length_nil, he, beq_self_eq_true]); refine hK _ ?_; clear hK K))
  refine awp_seq_k fun K hK => ?_
  (refine awp_reg_tov [0, 3, 21] [(3, objs []), (21, bD true)] (h := ?_) (k := ?_); · ((repeat' (first | ((first | refine al_r rfl fun K' hK' => ?_ | refine al_d rfl fun K' hK' => ?_ | refine al_t rfl rfl fun K' hK' => ?_); (repeat (first | (simp only [go_sem, simprocAttr, List.length_map, List.length_nil, he, beq_self_eq_true]) | refine AS.mk ?_ | refine AAp.grow ?_)); (first | ((first | refine hK' _ _ ?_ | refine ⟨?_, hK' _ _ ?_⟩ | refine ⟨?_, ?_, hK' _ _ ?_⟩ | refine ⟨?_, ?_, ?_, hK' _ _ ?_⟩) <;> clear hK' K' <;> (first | (show alist _ _ _ _ _ _; skip) | (intro s hs; cases hs; done) | assumption | (simp; done) | omega | (simp; omega) | skip)) | ((show AC _ _ (D.fn 16 _) _ _); refine acall_p (f := 16) (e := rfl) (hr := rfl) (k := hK' _ _ ?_) (hc := Try.call16) (h := heaps); clear hK' K'))) | refine al_e rfl rfl ?_ | refine al_u rfl rfl ?_ | ((fail_if_success (refine al_t rfl rfl fun K' hK' => ?_)); refine al_s _ rfl rfl rfl (fun hb => ?_) (fun hb => ?_)))); all_goals (refine al_nil ?_; simp only [go_sem, simprocAttr, List.length_map, List.length_nil, he, beq_self_eq_true, *, Bool.and_true, Bool.and_false, Bool.true_and, Bool.false_and, Bool.or_true, Bool.true_or, Bool.or_false, Bool.false_or, Bool.not_true, Bool.not_false, Bool.false_eq_true]))); intro K hK; (simp only [go_sem, simprocAttr, List.length_map, List.length_nil, he, beq_self_eq_true]); refine hK _ ?_; clear hK K
  refine awp_if (_) rfl (fun hc => ?_) (fun hc => ?_)

  · (refine awp_reg_tov [2] [(2, bD true)] (h := ?_) (k := ?_); · ((repeat' (first | ((first | refine al_r rfl fun K' hK' => ?_ | refine al_d rfl fun K' hK' => ?_ | refine al_t rfl rfl fun K' hK' => ?_); (repeat (first | (simp only [go_sem, simprocAttr, List.length_map, List.length_nil, List.map_nil, cast0, beq_self_eq_true]) | refine AS.mk ?_ | refine AAp.grow ?_)); (first | ((first | refine hK' _ _ ?_ | refine ⟨?_, hK' _ _ ?_⟩ | refine ⟨?_, ?_, hK' _ _ ?_⟩ | refine ⟨?_, ?_, ?_, hK' _ _ ?_⟩) <;> clear hK' K' <;> (first | (show alist _ _ _ _ _ _; skip) | (intro s hs; cases hs; done) | assumption | (simp; done) | omega | (simp; omega) | skip)) | ((show AC _ _ (D.fn 16 _) _ _); refine acall_p (f := 16) (e := rfl) (hr := rfl) (k := hK' _ _ ?_) (hc := Try.call16) (h := heaps); clear hK' K'))) | refine al_e rfl rfl ?_ | refine al_u rfl rfl ?_ | ((fail_if_success (refine al_t rfl rfl fun K' hK' => ?_)); refine al_s _ rfl rfl rfl (fun hb => ?_) (fun hb => ?_)))); all_goals (refine al_nil ?_; simp only [go_sem, simprocAttr, List.length_map, List.length_nil, List.map_nil, cast0, beq_self_eq_true, *, Bool.and_true, Bool.and_false, Bool.true_and, Bool.false_and, Bool.or_true, Bool.true_or, Bool.or_false, Bool.false_or, Bool.not_true, Bool.not_false, Bool.false_eq_true]))); intro K hK; (simp only [go_sem, simprocAttr, List.length_map, List.length_nil, List.map_nil, cast0, beq_self_eq_true]); refine hK _ ?_; clear hK K
    all_goals (refine awp_ret ?_; (first | refine hR _ _ (.inl rfl) rfl ?_ | refine hR _ _ (.inl rfl) rfl ?_ ?_); (first | (simp only [go_sem, simprocAttr, List.length_map, List.length_nil, List.map_nil, cast0, beq_self_eq_true, *, Bool.and_true, Bool.and_false, Bool.true_and, Bool.false_and, Bool.or_true, Bool.true_or, Bool.or_false, Bool.false_or, Bool.not_true, Bool.not_false, Bool.false_eq_true]; done) | contradiction | (simp_all; done) | simp only [go_sem, simprocAttr, List.length_map, List.length_nil, List.map_nil, cast0, beq_self_eq_true, *, Bool.and_true, Bool.and_false, Bool.true_and, Bool.false_and, Bool.or_true, Bool.true_or, Bool.or_false, Bool.false_or, Bool.not_true, Bool.not_false, Bool.false_eq_true]))
  · cases hc


theorem allGood (h : List Int) (l : List Obj) (h4 : h.length ≤ 4000) (hch : Chain h 0 l) (hll : l.length ≤ 5000) (hob : ACallP Try.prog 15 [words h] (.tup [objs l, iD 0])) : ACallP Try.prog 3 [words h] (bD true) := by
  have heq := equalW h h (by simp [maxLen]; omega)
  rw [(listEq_iff eqI_iff).2 rfl] at heq
  refine acallp_fn [2] Try.func3 rfl rfl Try.ntmps3 (by simp) fun R hR => ?_
  (refine awp_reg_seq [0] fun K hK => ?_; (repeat' (first | ((first | refine al_r rfl fun K' hK' => ?_ | refine al_d rfl fun K' hK' => ?_ | refine al_t rfl rfl fun K' hK' => ?_); (repeat (first | (simp only [go_sem, simprocAttr, List.length_map, bne_self_eq_false]) | refine AS.mk ?_ | refine AAp.grow ?_)); (first | ((first | refine hK' _ _ ?_ | refine ⟨?_, hK' _ _ ?_⟩ | refine ⟨?_, ?_, hK' _ _ ?_⟩ | refine ⟨?_, ?_, ?_, hK' _ _ ?_⟩) <;> clear hK' K' <;> (first | (show alist _ _ _ _ _ _; skip) | (intro s hs; cases hs; done) | assumption | (simp; done) | omega | (simp; omega) | skip)))) | refine al_e rfl rfl ?_ | refine al_u rfl rfl ?_ | ((fail_if_success (refine al_t rfl rfl fun K' hK' => ?_)); refine al_s _ rfl rfl rfl (fun hb => ?_) (fun hb => ?_)))); all_goals (refine al_nil ?_; (simp only [go_sem, simprocAttr, List.length_map, bne_self_eq_false]); refine hK _ ?_; clear hK K))
  (refine awp_reg_seq [0, 3, 4] fun K hK => ?_; (repeat' (first | ((first | refine al_r rfl fun K' hK' => ?_ | refine al_d rfl fun K' hK' => ?_ | refine al_t rfl rfl fun K' hK' => ?_); (repeat (first | (simp only [go_sem, simprocAttr, List.length_map, bne_self_eq_false]) | refine AS.mk ?_ | refine AAp.grow ?_)); (first | ((first | refine hK' _ _ ?_ | refine ⟨?_, hK' _ _ ?_⟩ | refine ⟨?_, ?_, hK' _ _ ?_⟩ | refine ⟨?_, ?_, ?_, hK' _ _ ?_⟩) <;> clear hK' K' <;> (first | (show alist _ _ _ _ _ _; skip) | (intro s hs; cases hs; done) | assumption | (simp; done) | omega | (simp; omega) | skip)) | ((show AC _ _ (D.fn 15 _) _ _); refine acall_p (f := 15) (e := rfl) (hr := rfl) (k := hK' _ _ ?_) (hc := Try.call15) (h := hob); clear hK' K') | ((show AC _ _ (D.fn 15 _) _ _); refine acall_p (f := 15) (e := rfl) (hr := rfl) (k := hK' _ _ ?_) (hc := Try.call15) (h := hob); clear hK' K'))) | refine al_e rfl rfl ?_ | refine al_u rfl rfl ?_ | ((fail_if_success (refine al_t rfl rfl fun K' hK' => ?_)); refine al_s _ rfl rfl rfl (fun hb => ?_) (fun hb => ?_)))); all_goals (refine al_nil ?_; (simp only [go_sem, simprocAttr, List.length_map, bne_self_eq_false]); refine hK _ ?_; clear hK K))
  refine awp_seq_k fun K hK => ?_
  (refine awp_reg_tov [0, 3, 21] [(3, objs l), (0, words h), (21, bD false)] (h := ?_) (k := ?_); · ((repeat' (first | ((first | refine al_r rfl fun K' hK' => ?_ | refine al_d rfl fun K' hK' => ?_ | refine al_t rfl rfl fun K' hK' => ?_); (repeat (first | (simp only [go_sem, simprocAttr, List.length_map, bne_self_eq_false]) | refine AS.mk ?_ | refine AAp.grow ?_)); (first | ((first | refine hK' _ _ ?_ | refine ⟨?_, hK' _ _ ?_⟩ | refine ⟨?_, ?_, hK' _ _ ?_⟩ | refine ⟨?_, ?_, ?_, hK' _ _ ?_⟩) <;> clear hK' K' <;> (first | (show alist _ _ _ _ _ _; skip) | (intro s hs; cases hs; done) | assumption | (simp; done) | omega | (simp; omega) | skip)) | ((show AC _ _ (D.fn 16 _) _ _); refine acall_p (f := 16) (e := rfl) (hr := rfl) (k := hK' _ _ ?_) (hc := Try.call16) (h := heaps); clear hK' K') | ((show AC _ _ (D.fn 16 _) _ _); refine acall_p (f := 16) (e := rfl) (hr := rfl) (k := hK' _ _ ?_) (hc := Try.call16) (h := heaps); clear hK' K'))) | refine al_e rfl rfl ?_ | refine al_u rfl rfl ?_ | ((fail_if_success (refine al_t rfl rfl fun K' hK' => ?_)); refine al_s _ rfl rfl rfl (fun hb => ?_) (fun hb => ?_)))); all_goals (refine al_nil ?_; simp only [go_sem, simprocAttr, List.length_map, bne_self_eq_false, *, Bool.and_true, Bool.and_false, Bool.true_and, Bool.false_and, Bool.or_true, Bool.true_or, Bool.or_false, Bool.false_or, Bool.not_true, Bool.not_false, Bool.false_eq_true]))); intro K hK; (simp only [go_sem, simprocAttr, List.length_map, bne_self_eq_false]); refine hK _ ?_; clear hK K
  refine awp_if (_) rfl (fun hc => ?_) (fun hc => ?_)
  · cases hc
  · refine awp_skip ?_
    refine hK _ ?_; clear hK K
    (refine awp_reg_seq [0, 3, 5] fun K hK => ?_; (repeat' (first | ((first | refine al_r rfl fun K' hK' => ?_ | refine al_d rfl fun K' hK' => ?_ | refine al_t rfl rfl fun K' hK' => ?_); (repeat (first | (simp only [go_sem, simprocAttr, List.length_map, bne_self_eq_false]) | refine AS.mk ?_ | refine AAp.grow ?_)); (first | ((first | refine hK' _ _ ?_ | refine ⟨?_, hK' _ _ ?_⟩ | refine ⟨?_, ?_, hK' _ _ ?_⟩ | refine ⟨?_, ?_, ?_, hK' _ _ ?_⟩) <;> clear hK' K' <;> (first | (show alist _ _ _ _ _ _; skip) | (intro s hs; cases hs; done) | assumption | (simp; done) | omega | (simp; omega) | skip)))) | refine al_e rfl rfl ?_ | refine al_u rfl rfl ?_ | ((fail_if_success (refine al_t rfl rfl fun K' hK' => ?_)); refine al_s _ rfl rfl rfl (fun hb => ?_) (fun hb => ?_)))); all_goals (refine al_nil ?_; (simp only [go_sem, simprocAttr, List.length_map, bne_self_eq_false]); refine hK _ ?_; clear hK K))
    (refine awp_frz [0, 3, 5] [] (by decide) (by simp) ?_; simp only [go_sem, simprocAttr, List.length_map, bne_self_eq_false])
    refine awp_seq_k fun K hK => ?_
    (refine awp_reg_seq [0, 5, 28, 29, 30] fun K hK => ?_; (repeat' (first | ((first | refine al_r rfl fun K' hK' => ?_ | refine al_d rfl fun K' hK' => ?_ | refine al_t rfl rfl fun K' hK' => ?_); (repeat (first | (simp only [go_sem, simprocAttr, List.length_map, bne_self_eq_false]) | refine AS.mk ?_ | refine AAp.grow ?_)); (first | ((first | refine hK' _ _ ?_ | refine ⟨?_, hK' _ _ ?_⟩ | refine ⟨?_, ?_, hK' _ _ ?_⟩ | refine ⟨?_, ?_, ?_, hK' _ _ ?_⟩) <;> clear hK' K' <;> (first | (show alist _ _ _ _ _ _; skip) | (intro s hs; cases hs; done) | assumption | (simp; done) | omega | (simp; omega) | skip)))) | refine al_e rfl rfl ?_ | refine al_u rfl rfl ?_ | ((fail_if_success (refine al_t rfl rfl fun K' hK' => ?_)); refine al_s _ rfl rfl rfl (fun hb => ?_) (fun hb => ?_)))); all_goals (refine al_nil ?_; (simp only [go_sem, simprocAttr, List.length_map, bne_self_eq_false]); refine hK _ ?_; clear hK K))
    refine awp_block ?_
    -- loop 0 head [0, 5, 28, 29, 30]
    refine awp_loop (fun m s => ∃ (i a : Nat), i ≤ l.length ∧ m = l.length - i ∧ Chain h a (l.drop i) ∧ a ≤ h.length ∧ s = ⟨ofL [(0, words h), (5, words (h.take a)), (28, objs l), (29, iD l.length), (30, iD i)], [], 0⟩) ⟨_, 0, 0, Nat.zero_le _, rfl, hch, Nat.zero_le _, rfl⟩ ?_
    rintro m s ⟨i, a, hi, rfl, hc1, hal, rfl⟩
    (refine awp_reg_seq [0, 5, 28, 29, 30, 31] fun K hK => ?_; (repeat' (first | ((first | refine al_r rfl fun K' hK' => ?_ | refine al_d rfl fun K' hK' => ?_ | refine al_t rfl rfl fun K' hK' => ?_); (repeat (first | (simp only [go_sem, simprocAttr, List.length_map, bne_self_eq_false]) | refine AS.mk ?_ | refine AAp.grow ?_)); (first | ((first | refine hK' _ _ ?_ | refine ⟨?_, hK' _ _ ?_⟩ | refine ⟨?_, ?_, hK' _ _ ?_⟩ | refine ⟨?_, ?_, ?_, hK' _ _ ?_⟩) <;> clear hK' K' <;> (first | (show alist _ _ _ _ _ _; skip) | (intro s hs; cases hs; done) | assumption | (simp; done) | omega | (simp; omega) | skip)))) | refine al_e rfl rfl ?_ | refine al_u rfl rfl ?_ | ((fail_if_success (refine al_t rfl rfl fun K' hK' => ?_)); refine al_s _ rfl rfl rfl (fun hb => ?_) (fun hb => ?_)))); all_goals (refine al_nil ?_; (simp only [go_sem, simprocAttr, List.length_map, bne_self_eq_false]); refine hK _ ?_; clear hK K))
    refine awp_seq_k fun K hK => ?_
    refine awp_if (decide ((i : Int) < (l.length : Int))) rfl (fun hc => ?_) (fun hc => ?_)
    · refine awp_skip ?_
      refine hK _ ?_; clear hK K
      refine awp_seq_k fun K hK => ?_
      refine awp_block ?_
      have hi2 : i < l.length := by simpa using hc
      obtain ⟨o, hget⟩ := get_of_lt hi2
      have hnn : (0 : Int) ≤ (i : Int) := Int.natCast_nonneg i
      have hnx : IntKind.i64.wrap ((i : Int) + 1) = ((i + 1 : Nat) : Int) := by rw [Go.Ab.wrap_small (by omega) (by omega)]; rfl
      rw [drop_of hget] at hc1
      obtain ⟨hoa, hri, h1, h2, hc2⟩ := hc1
      obtain ⟨oa, k, num, t, ps⟩ := o
      simp only at hoa
      subst hoa
      have hput := put (h.take a) ⟨a, k, num, t, ps⟩ (by rw [List.length_take]; simp [maxLen]; omega)
      rw [put_chain h4 hri h1 h2] at hput
      clear h1 hri
      generalize (encW ⟨a, k, num, t, ps⟩).length = L at *
      have htl : (h.take a).length = a := by rw [List.length_take]; omega
      have hmn : min a h.length = a := by omega

      (refine awp_reg_seq [0, 5, 7, 28, 29, 30] fun K hK => ?_; (repeat' (first | ((first | refine al_r rfl fun K' hK' => ?_ | refine al_d rfl fun K' hK' => ?_ | refine al_t rfl rfl fun K' hK' => ?_); (repeat (first | (simp only [go_sem, simprocAttr, hget, hnn, hi2, hnx, htl, hmn, Int.toNat_natCast, List.getElem?_map, Option.map_some, List.length_map, List.length_take, Obj.row]) | refine AS.mk ?_ | refine AAp.grow ?_)); (first | ((first | refine hK' _ _ ?_ | refine ⟨?_, hK' _ _ ?_⟩ | refine ⟨?_, ?_, hK' _ _ ?_⟩ | refine ⟨?_, ?_, ?_, hK' _ _ ?_⟩) <;> clear hK' K' <;> (first | (show alist _ _ _ _ _ _; skip) | (intro s hs; cases hs; done) | assumption | (simp; done) | omega | (simp; omega) | skip)))) | refine al_e rfl rfl ?_ | refine al_u rfl rfl ?_ | ((fail_if_success (refine al_t rfl rfl fun K' hK' => ?_)); refine al_s _ rfl rfl rfl (fun hb => ?_) (fun hb => ?_)))); all_goals (refine al_nil ?_; (simp only [go_sem, simprocAttr, hget, hnn, hi2, hnx, htl, hmn, Int.toNat_natCast, List.getElem?_map, Option.map_some, List.length_map, List.length_take, Obj.row]); refine hK _ ?_; clear hK K))
      (refine awp_frz [0, 5, 7, 28, 29, 30] [] (by decide) (by simp) ?_; simp only [go_sem, simprocAttr, hget, hnn, hi2, hnx, htl, hmn, Int.toNat_natCast, List.getElem?_map, Option.map_some, List.length_map, List.length_take, Obj.row])
      refine awp_seq_k fun K hK => ?_

      (refine awp_reg_tov [0, 5, 7, 28, 29, 30, 38] [(38, bD false)] (h := ?_) (k := ?_); · ((repeat' (first | ((first | refine al_r rfl fun K' hK' => ?_ | refine al_d rfl fun K' hK' => ?_ | refine al_t rfl rfl fun K' hK' => ?_); (repeat (first | (simp only [go_sem, simprocAttr, htl, hmn, List.length_map, List.length_take, bne_self_eq_false]) | refine AS.mk ?_ | refine AAp.grow ?_)); (first | ((first | refine hK' _ _ ?_ | refine ⟨?_, hK' _ _ ?_⟩ | refine ⟨?_, ?_, hK' _ _ ?_⟩ | refine ⟨?_, ?_, ?_, hK' _ _ ?_⟩) <;> clear hK' K' <;> (first | (show alist _ _ _ _ _ _; skip) | (intro s hs; cases hs; done) | assumption | (simp; done) | omega | (simp; omega) | skip)))) | refine al_e rfl rfl ?_ | refine al_u rfl rfl ?_ | ((fail_if_success (refine al_t rfl rfl fun K' hK' => ?_)); refine al_s _ rfl rfl rfl (fun hb => ?_) (fun hb => ?_)))); all_goals (refine al_nil ?_; simp only [go_sem, simprocAttr, htl, hmn, List.length_map, List.length_take, bne_self_eq_false, *, Bool.and_true, Bool.and_false, Bool.true_and, Bool.false_and, Bool.or_true, Bool.true_or, Bool.or_false, Bool.false_or, Bool.not_true, Bool.not_false, Bool.false_eq_true]))); intro K hK; (simp only [go_sem, simprocAttr, htl, hmn, List.length_map, List.length_take, bne_self_eq_false]); refine hK _ ?_; clear hK K
      refine awp_if (_) rfl (fun hc => ?_) (fun hc => ?_)
      · cases hc
      · refine awp_skip ?_
        refine hK _ ?_; clear hK K

        (refine awp_reg_seq [0, 7, 8, 9, 10, 28, 29, 30] fun K hK => ?_; (repeat' (first | ((first | refine al_r rfl fun K' hK' => ?_ | refine al_d rfl fun K' hK' => ?_ | refine al_t rfl rfl fun K' hK' => ?_); (repeat (first | (simp only [go_sem, simprocAttr, htl, hnx, List.length_map, List.length_take]) | refine AS.mk ?_ | refine AAp.grow ?_)); (first | ((first | refine hK' _ _ ?_ | refine ⟨?_, hK' _ _ ?_⟩ | refine ⟨?_, ?_, hK' _ _ ?_⟩ | refine ⟨?_, ?_, ?_, hK' _ _ ?_⟩) <;> clear hK' K' <;> (first | (show alist _ _ _ _ _ _; skip) | (intro s hs; cases hs; done) | assumption | (simp; done) | omega | (simp; omega) | skip)) | ((show AC _ _ (D.fn 17 _) _ _); refine acall_p (f := 17) (e := rfl) (hr := rfl) (k := hK' _ _ ?_) (hc := Try.call17) (h := hput); clear hK' K'))) | refine al_e rfl rfl ?_ | refine al_u rfl rfl ?_ | ((fail_if_success (refine al_t rfl rfl fun K' hK' => ?_)); refine al_s _ rfl rfl rfl (fun hb => ?_) (fun hb => ?_)))); all_goals (refine al_nil ?_; (simp only [go_sem, simprocAttr, htl, hnx, List.length_map, List.length_take]); refine hK _ ?_; clear hK K))
        refine awp_seq_k fun K hK => ?_

        (refine awp_reg_tov [0, 8, 28, 29, 30, 53] [(53, bD false)] (h := ?_) (k := ?_); · ((repeat' (first | ((first | refine al_r rfl fun K' hK' => ?_ | refine al_d rfl fun K' hK' => ?_ | refine al_t rfl rfl fun K' hK' => ?_); (repeat (first | (simp only [go_sem, simprocAttr, hnx, List.length_map, bne_self_eq_false]) | refine AS.mk ?_ | refine AAp.grow ?_)); (first | ((first | refine hK' _ _ ?_ | refine ⟨?_, hK' _ _ ?_⟩ | refine ⟨?_, ?_, hK' _ _ ?_⟩ | refine ⟨?_, ?_, ?_, hK' _ _ ?_⟩) <;> clear hK' K' <;> (first | (show alist _ _ _ _ _ _; skip) | (intro s hs; cases hs; done) | assumption | (simp; done) | omega | (simp; omega) | skip)))) | refine al_e rfl rfl ?_ | refine al_u rfl rfl ?_ | ((fail_if_success (refine al_t rfl rfl fun K' hK' => ?_)); refine al_s _ rfl rfl rfl (fun hb => ?_) (fun hb => ?_)))); all_goals (refine al_nil ?_; simp only [go_sem, simprocAttr, hnx, List.length_map, bne_self_eq_false, *, Bool.and_true, Bool.and_false, Bool.true_and, Bool.false_and, Bool.or_true, Bool.true_or, Bool.or_false, Bool.false_or, Bool.not_true, Bool.not_false, Bool.false_eq_true]))); intro K hK; (simp only [go_sem, simprocAttr, hnx, List.length_map, bne_self_eq_false]); refine hK _ ?_; clear hK K
        refine awp_if (_) rfl (fun hc => ?_) (fun hc => ?_)
        · cases hc
        · refine awp_skip ?_
          refine hK _ ?_; clear hK K
          (refine awp_reg_end [0, 5, 28, 29, 30] fun K hK => ?_; (repeat' (first | ((first | refine al_r rfl fun K' hK' => ?_ | refine al_d rfl fun K' hK' => ?_ | refine al_t rfl rfl fun K' hK' => ?_); (repeat (first | (simp only [go_sem, simprocAttr, hnx, List.length_map, bne_self_eq_false]) | refine AS.mk ?_ | refine AAp.grow ?_)); (first | ((first | refine hK' _ _ ?_ | refine ⟨?_, hK' _ _ ?_⟩ | refine ⟨?_, ?_, hK' _ _ ?_⟩ | refine ⟨?_, ?_, ?_, hK' _ _ ?_⟩) <;> clear hK' K' <;> (first | (show alist _ _ _ _ _ _; skip) | (intro s hs; cases hs; done) | assumption | (simp; done) | omega | (simp; omega) | skip)))) | refine al_e rfl rfl ?_ | refine al_u rfl rfl ?_ | ((fail_if_success (refine al_t rfl rfl fun K' hK' => ?_)); refine al_s _ rfl rfl rfl (fun hb => ?_) (fun hb => ?_)))); all_goals (refine al_nil ?_; (simp only [go_sem, simprocAttr, hnx, List.length_map, bne_self_eq_false]); refine hK _ ?_; clear hK K))
          refine hK _ ?_; clear hK K
          (refine awp_reg_end [0, 5, 28, 29, 30] fun K hK => ?_; (repeat' (first | ((first | refine al_r rfl fun K' hK' => ?_ | refine al_d rfl fun K' hK' => ?_ | refine al_t rfl rfl fun K' hK' => ?_); (repeat (first | (simp only [go_sem, simprocAttr, hnx, List.length_map, bne_self_eq_false]) | refine AS.mk ?_ | refine AAp.grow ?_)); (first | ((first | refine hK' _ _ ?_ | refine ⟨?_, hK' _ _ ?_⟩ | refine ⟨?_, ?_, hK' _ _ ?_⟩ | refine ⟨?_, ?_, ?_, hK' _ _ ?_⟩) <;> clear hK' K' <;> (first | (show alist _ _ _ _ _ _; skip) | (intro s hs; cases hs; done) | assumption | (simp; done) | omega | (simp; omega) | skip)))) | refine al_e rfl rfl ?_ | refine al_u rfl rfl ?_ | ((fail_if_success (refine al_t rfl rfl fun K' hK' => ?_)); refine al_s _ rfl rfl rfl (fun hb => ?_) (fun hb => ?_)))); all_goals (refine al_nil ?_; (simp only [go_sem, simprocAttr, hnx, List.length_map, bne_self_eq_false]); refine hK _ ?_; clear hK K))
          refine ⟨_, ?_, i + 1, _, hi2, rfl, hc2, h2, rfl⟩
          omega

    · have hie : i = l.length := by simp at hc; omega
      subst hie
      rw [List.drop_length] at hc1
      have hah : a = h.length := hc1
      subst hah
      rw [List.take_length]
      refine awp_exit ?_
      clear hK
      refine hK _ ?_; clear hK K
      (refine awp_reg_seq [2] fun K hK => ?_; (repeat' (first | ((first | refine al_r rfl fun K' hK' => ?_ | refine al_d rfl fun K' hK' => ?_ | refine al_t rfl rfl fun K' hK' => ?_); (repeat (first | (simp only [go_sem, simprocAttr, List.length_map]) | refine AS.mk ?_ | refine AAp.grow ?_)); (first | ((first | refine hK' _ _ ?_ | refine ⟨?_, hK' _ _ ?_⟩ | refine ⟨?_, ?_, hK' _ _ ?_⟩ | refine ⟨?_, ?_, ?_, hK' _ _ ?_⟩) <;> clear hK' K' <;> (first | (show alist _ _ _ _ _ _; skip) | (intro s hs; cases hs; done) | assumption | (simp; done) | omega | (simp; omega) | skip)) | ((show AC _ _ (D.fn 18 _) _ _); refine acall_p (f := 18) (e := rfl) (hr := rfl) (k := hK' _ _ ?_) (hc := Try.call18) (h := heq); clear hK' K'))) | refine al_e rfl rfl ?_ | refine al_u rfl rfl ?_ | ((fail_if_success (refine al_t rfl rfl fun K' hK' => ?_)); refine al_s _ rfl rfl rfl (fun hb => ?_) (fun hb => ?_)))); all_goals (refine al_nil ?_; (simp only [go_sem, simprocAttr, List.length_map]); refine hK _ ?_; clear hK K))
      all_goals (refine awp_ret ?_; (first | refine hR _ _ (.inl rfl) rfl ?_ | refine hR _ _ (.inl rfl) rfl ?_ ?_); (first | (simp only [go_sem, simprocAttr, List.length_map, *, Bool.and_true, Bool.and_false, Bool.true_and, Bool.false_and, Bool.or_true, Bool.true_or, Bool.or_false, Bool.false_or, Bool.not_true, Bool.not_false, Bool.false_eq_true]; done) | contradiction | (simp_all; done) | simp only [go_sem, simprocAttr, List.length_map, *, Bool.and_true, Bool.and_false, Bool.true_and, Bool.false_and, Bool.or_true, Bool.true_or, Bool.or_false, Bool.false_or, Bool.not_true, Bool.not_false, Bool.false_eq_true]))

theorem chain_len {h : List Int} : ∀ {l : List Obj} {a : Nat}, Chain h a l → a + l.length ≤ h.length
  | [], a, hc => by have : a = h.length := hc; simp; omega
  | o :: l, a, hc => by
    obtain ⟨_, _, _, h2, h3⟩ := hc
    have := chain_len h3
    have hp : 1 ≤ (encW o).length := by simp [encW]
    simp only [List.length_cons]; omega

theorem objF_err {h : List Int} : ∀ (f a : Nat) (acc : List Obj), (objF h f a acc).2 ≠ 0 → (objF h f a acc).1 = []
  | 0, a, acc, he => absurd rfl he
  | f + 1, a, acc, he => by
    unfold objF at he ⊢
    split
    · rename_i h1
      rw [if_pos h1] at he
      split
      · rfl
      · rename_i h2
        rw [if_neg h2] at he
        exact objF_err f _ _ he
    · rename_i h1
      rw [if_neg h1] at he
      exact absurd rfl he

theorem all_ (h : List Int) (hlen : h.length ≤ maxLen) (hok : ∀ w, w ∈ h → WordOk w) : ACallP Try.prog 3 [words h] (bD true) := by
  have hob := objects h hlen hok
  have hv : objsS h = if decide ((h.length : Int) > 4000) then ([], 2) else objF h (h.length + 1) 0 [] := rfl
  by_cases h4 : h.length ≤ 4000
  · rw [if_neg (by simp; omega)] at hv
    rw [hv] at hob
    by_cases he : (objF h (h.length + 1) 0 []).2 = 0
    · obtain ⟨l', hl, hc⟩ := objF_chain hlen hok (h.length + 1) 0 [] (objF h (h.length + 1) 0 []).1 (by omega) (Nat.zero_le _) (by rw [← he])
      rw [List.nil_append] at hl
      rw [← hl] at hc
      rw [he] at hob
      have := chain_len hc
      exact allGood h _ h4 hc (by omega) hob
    · rw [objF_err _ _ _ he] at hob
      exact allBad h _ (by simpa using he) hob
  · rw [if_pos (by simp; omega)] at hv
    rw [hv] at hob
    exact allBad h 2 (by decide) hob

theorem closed : closedT Try.prog [23, 34] = true := by kernel_rfl
theorem word_rows {f : Nat} : ∀ (rows : List (List PV)), (∀ r, r ∈ rows → r.length = Try.prog.cellsOf 34 ∧ shapeOk Try.prog f 34 r) → ∃ ls : List Int, rows = ls.map wrow ∧ ∀ w, w ∈ ls → WordOk w
  | [], _ => ⟨[], rfl, fun w hw => by cases hw⟩
  | r :: rows, h => by
    obtain ⟨n, rfl, hn⟩ := shape_int Try.underlying34 (h r List.mem_cons_self).2
    obtain ⟨ls, rfl, hls⟩ := word_rows rows fun r hr => h r (List.mem_cons_of_mem _ hr)
    refine ⟨n :: ls, rfl, fun w hw => ?_⟩
    rcases List.mem_cons.1 hw with rfl | hw
    · simp [Lit.wf, IntKind.min, IntKind.max, IntKind.signed, IntKind.bits] at hn
      exact ⟨by omega, by omega⟩
    · exact hls w hw
theorem sh23 {f : Nat} {xs : List PV} (h : shapeOk Try.prog f 23 xs) : ∃ ls : List Int, xs = [.sl (ls.map wrow)] ∧ ls.length ≤ maxLen ∧ ∀ w, w ∈ ls → WordOk w := by
  obtain ⟨n, rows, _, e0, hmax, _, hr⟩ := shape_slice Try.underlying23 h
  obtain ⟨ls, rfl, hls⟩ := word_rows rows hr
  exact ⟨ls, e0, by simpa using hmax, hls⟩
end Go.Proofs.Ytagphggcdmjlpaa.P
