/- The objects of a heap, in order: a contract. -/
import Derived.Test.YtagphggcdmjlpaaH4
set_option linter.unusedSimpArgs false
set_option linter.unusedVariables false
set_option maxHeartbeats 1000000
namespace Go.Proofs.Ytagphggcdmjlpaa.P
open Go.Ab Go.Proofs.Ytagphggcdmjlpaa.T

abbrev objs (l : List Obj) : D := .p (.sl (l.map Obj.row))

theorem at_ok {h : List Int} {a : Int} (he : (atS h a).2 = 0) (hlen : h.length ≤ maxLen) (hok : ∀ w, w ∈ h → WordOk w) : ∃ n : Nat, a = n ∧ n < h.length ∧ (atS h a).1.at_ = n ∧ rightS (atS h a).1 = true ∧ (encW (atS h a).1).length ≤ 4000 ∧
    n + (encW (atS h a).1).length ≤ h.length ∧ encW (atS h a).1 = (h.drop n).take (encW (atS h a).1).length := by
  have key : ∀ (n m : Nat) (o : Obj), n < h.length → o.at_ = n → (atO h n o m).2 = 0 → (atO h n o m).1.at_ = n ∧ rightS (atO h n o m).1 = true ∧ (encW (atO h n o m).1).length ≤ 4000 ∧
      n + (encW (atO h n o m).1).length ≤ h.length ∧ encW (atO h n o m).1 = (h.drop n).take (encW (atO h n o m).1).length := by
    intro n m o hn hoa h1
    unfold atO at h1 ⊢
    by_cases hc : (((putS [] o).2.2 != 0) || !(listEq eqI (putS [] o).1 ((h.drop n).take m))) = true
    · rw [if_pos hc] at h1; cases h1
    · rw [if_neg hc]
      dsimp only
      simp only [Bool.or_eq_true, not_or, bne_iff_ne, ne_eq, Decidable.not_not, Bool.not_eq_true', Bool.not_eq_false] at hc
      obtain ⟨h2, h3⟩ := hc
      have h3 := (listEq_iff eqI_iff).1 h3
      unfold putS at h2 h3
      by_cases hr : (!rightS o) = true
      · rw [if_pos hr] at h2; cases h2
      rw [if_neg hr] at h2 h3
      split at h2
      · cases h2
      · rename_i h4
        rw [if_neg h4] at h3
        simp only [List.nil_append] at h3
        have hl := congrArg List.length h3
        rw [List.length_take, List.length_drop] at hl
        have he := enc_len o
        simp only [List.length_nil, decide_eq_true_eq] at h4
        refine ⟨hoa, by simpa using hr, by omega, by omega, ?_⟩
        rw [h3] at hl ⊢
        rw [List.length_take, List.length_drop, List.take_eq_take_iff]
        simp only [List.length_drop]
        omega
  unfold atS at he ⊢
  by_cases h1 : (decide (a < 0) || decide (a ≥ (h.length : Int))) = true
  · rw [if_pos h1] at he; cases he
  rw [if_neg h1] at he ⊢
  simp at h1
  obtain ⟨n, rfl⟩ := Int.eq_ofNat_of_zero_le h1.1
  have hnl : n < h.length := by omega
  obtain ⟨w, hw⟩ := get_of_lt hnl
  rw [Int.toNat_natCast, hw] at he ⊢
  simp only at he ⊢
  split at he
  · cases he
  · rename_i h2
    rw [if_neg h2]
    refine ⟨n, rfl, hnl, ?_⟩
    unfold atR at he ⊢
    split at he
    · rename_i h3
      rw [if_pos h3]
      exact key n _ _ hnl rfl he
    · rename_i h3
      rw [if_neg h3]
      exact key n _ _ hnl rfl he

/-- What Objects answers from a place on. -/
def objF (h : List Int) : Nat → Nat → List Obj → List Obj × Int
  | 0, _, acc => (acc, 0)
  | f + 1, a, acc => if a < h.length then (if (atS h a).2 != 0 then ([], 3) else objF h f (a + roomN (atS h a).1.kind (atS h a).1.text.size (atS h a).1.parts.length) (acc ++ [(atS h a).1])) else (acc, 0)
def objsS (h : List Int) : List Obj × Int := if decide ((h.length : Int) > 4000) then ([], 2) else objF h (h.length + 1) 0 []


theorem objects (h : List Int) (hlen : h.length ≤ maxLen) (hok : ∀ w, w ∈ h → WordOk w) : ACallP Try.prog 15 [words h] (.tup [objs (objsS h).1, iD (objsS h).2]) := by
  obtain ⟨R0, hR0⟩ : ∃ R0, R0 = objsS h := ⟨_, rfl⟩
  have hv : R0 = if decide ((h.length : Int) > 4000) then ([], 2) else objF h (h.length + 1) 0 [] := hR0
  rw [← hR0]
  clear hR0
  refine acallp_fn [2, 3] Try.func15 rfl rfl Try.ntmps15 (by simp) fun R hR => ?_
  (refine awp_reg_seq [0] fun K hK => ?_; (repeat' (first | ((first | refine al_r rfl fun K' hK' => ?_ | refine al_d rfl fun K' hK' => ?_ | refine al_t rfl rfl fun K' hK' => ?_); (repeat (first | (simp only [go_sem, simprocAttr, List.length_map]) | refine AS.mk ?_ | refine AAp.grow ?_)); (first | ((first | refine hK' _ _ ?_ | refine ⟨?_, hK' _ _ ?_⟩ | refine ⟨?_, ?_, hK' _ _ ?_⟩ | refine ⟨?_, ?_, ?_, hK' _ _ ?_⟩) <;> clear hK' K' <;> (first | (show alist _ _ _ _ _ _; skip) | (intro s hs; cases hs; done) | assumption | (simp; done) | omega | (simp; omega) | skip)))) | refine al_e rfl rfl ?_ | refine al_u rfl rfl ?_ | ((fail_if_success (refine al_t rfl rfl fun K' hK' => ?_)); refine al_s _ rfl rfl rfl (fun hb => ?_) (fun hb => ?_)))); all_goals (refine al_nil ?_; (simp only [go_sem, simprocAttr, List.length_map]); refine hK _ ?_; clear hK K))
  refine awp_seq_k fun K hK => ?_
  (refine awp_reg_seq [0, 10] fun K hK => ?_; (repeat' (first | ((first | refine al_r rfl fun K' hK' => ?_ | refine al_d rfl fun K' hK' => ?_ | refine al_t rfl rfl fun K' hK' => ?_); (repeat (first | (simp only [go_sem, simprocAttr, List.length_map]) | refine AS.mk ?_ | refine AAp.grow ?_)); (first | ((first | refine hK' _ _ ?_ | refine ⟨?_, hK' _ _ ?_⟩ | refine ⟨?_, ?_, hK' _ _ ?_⟩ | refine ⟨?_, ?_, ?_, hK' _ _ ?_⟩) <;> clear hK' K' <;> (first | (show alist _ _ _ _ _ _; skip) | (intro s hs; cases hs; done) | assumption | (simp; done) | omega | (simp; omega) | skip)))) | refine al_e rfl rfl ?_ | refine al_u rfl rfl ?_ | ((fail_if_success (refine al_t rfl rfl fun K' hK' => ?_)); refine al_s _ rfl rfl rfl (fun hb => ?_) (fun hb => ?_)))); all_goals (refine al_nil ?_; (simp only [go_sem, simprocAttr, List.length_map]); refine hK _ ?_; clear hK K))
  refine awp_if (decide ((h.length : Int) > 4000)) rfl (fun hc => ?_) (fun hc => ?_)
  · (refine awp_reg_seq [2, 3] fun K hK => ?_; (repeat' (first | ((first | refine al_r rfl fun K' hK' => ?_ | refine al_d rfl fun K' hK' => ?_ | refine al_t rfl rfl fun K' hK' => ?_); (repeat (first | (simp only [go_sem, simprocAttr, List.length_map]) | refine AS.mk ?_ | refine AAp.grow ?_)); (first | ((first | refine hK' _ _ ?_ | refine ⟨?_, hK' _ _ ?_⟩ | refine ⟨?_, ?_, hK' _ _ ?_⟩ | refine ⟨?_, ?_, ?_, hK' _ _ ?_⟩) <;> clear hK' K' <;> (first | (show alist _ _ _ _ _ _; skip) | (intro s hs; cases hs; done) | assumption | (simp; done) | omega | (simp; omega) | skip)))) | refine al_e rfl rfl ?_ | refine al_u rfl rfl ?_ | ((fail_if_success (refine al_t rfl rfl fun K' hK' => ?_)); refine al_s _ rfl rfl rfl (fun hb => ?_) (fun hb => ?_)))); all_goals (refine al_nil ?_; (simp only [go_sem, simprocAttr, List.length_map]); refine hK _ ?_; clear hK K))
    refine awp_ret ?_; (first | refine hR _ _ (.inl rfl) rfl ?_ | refine hR _ _ (.inl rfl) rfl ?_ ?_)
    rw [if_pos hc] at hv
    rw [hv]
    simp only [go_sem, simprocAttr, List.length_map, List.map_nil]
    rfl
  · rw [if_neg (by rw [hc]; simp)] at hv
    have h4 : h.length ≤ 4000 := by simp at hc; omega
    refine awp_skip ?_
    refine hK _ ?_; clear hK K
    (refine awp_reg_seq [0, 4] fun K hK => ?_; (repeat' (first | ((first | refine al_r rfl fun K' hK' => ?_ | refine al_d rfl fun K' hK' => ?_ | refine al_t rfl rfl fun K' hK' => ?_); (repeat (first | (simp only [go_sem, simprocAttr, List.length_map]) | refine AS.mk ?_ | refine AAp.grow ?_)); (first | ((first | refine hK' _ _ ?_ | refine ⟨?_, hK' _ _ ?_⟩ | refine ⟨?_, ?_, hK' _ _ ?_⟩ | refine ⟨?_, ?_, ?_, hK' _ _ ?_⟩) <;> clear hK' K' <;> (first | (show alist _ _ _ _ _ _; skip) | (intro s hs; cases hs; done) | assumption | (simp; done) | omega | (simp; omega) | skip)))) | refine al_e rfl rfl ?_ | refine al_u rfl rfl ?_ | ((fail_if_success (refine al_t rfl rfl fun K' hK' => ?_)); refine al_s _ rfl rfl rfl (fun hb => ?_) (fun hb => ?_)))); all_goals (refine al_nil ?_; (simp only [go_sem, simprocAttr, List.length_map]); refine hK _ ?_; clear hK K))
    refine awp_born 4 5 rfl ?_
    refine awp_seq_k fun K hK => ?_
    (refine awp_reg_seq [0, 4, 5] fun K hK => ?_; (repeat' (first | ((first | refine al_r rfl fun K' hK' => ?_ | refine al_d rfl fun K' hK' => ?_ | refine al_t rfl rfl fun K' hK' => ?_); (repeat (first | (simp only [go_sem, simprocAttr, List.length_map]) | refine AS.mk ?_ | refine AAp.grow ?_)); (first | ((first | refine hK' _ _ ?_ | refine ⟨?_, hK' _ _ ?_⟩ | refine ⟨?_, ?_, hK' _ _ ?_⟩ | refine ⟨?_, ?_, ?_, hK' _ _ ?_⟩) <;> clear hK' K' <;> (first | (show alist _ _ _ _ _ _; skip) | (intro s hs; cases hs; done) | assumption | (simp; done) | omega | (simp; omega) | skip)))) | refine al_e rfl rfl ?_ | refine al_u rfl rfl ?_ | ((fail_if_success (refine al_t rfl rfl fun K' hK' => ?_)); refine al_s _ rfl rfl rfl (fun hb => ?_) (fun hb => ?_)))); all_goals (refine al_nil ?_; (simp only [go_sem, simprocAttr, List.length_map]); refine hK _ ?_; clear hK K))
    refine awp_block ?_
    -- loop 0 head [0, 4, 5]
    refine awp_loop_cut (fun m s => ∃ (a f : Nat) (acc : List Obj), m = h.length - a ∧ a ≤ h.length ∧ acc.length ≤ a ∧ h.length - a < f ∧ R0 = objF h f a acc ∧ s = ⟨ofL [(0, words h), (4, .ref 0 0 acc.length), (5, iD a)], [.row 5 (acc.map Obj.row)], 0⟩) ⟨_, 0, h.length + 1, [], rfl, Nat.zero_le _, Nat.zero_le _, by omega, hv, rfl⟩ ?_
    clear hv
    rintro m s ⟨a, f, acc, hm, hal, hacc, hf, hR1, rfl⟩
    refine awp_seq_k fun K hK => ?_
    (refine awp_reg_seq [0, 4, 5, 14] fun K hK => ?_; (repeat' (first | ((first | refine al_r rfl fun K' hK' => ?_ | refine al_d rfl fun K' hK' => ?_ | refine al_t rfl rfl fun K' hK' => ?_); (repeat (first | (simp only [go_sem, simprocAttr, List.length_map]) | refine AS.mk ?_ | refine AAp.grow ?_)); (first | ((first | refine hK' _ _ ?_ | refine ⟨?_, hK' _ _ ?_⟩ | refine ⟨?_, ?_, hK' _ _ ?_⟩ | refine ⟨?_, ?_, ?_, hK' _ _ ?_⟩) <;> clear hK' K' <;> (first | (show alist _ _ _ _ _ _; skip) | (intro s hs; cases hs; done) | assumption | (simp; done) | omega | (simp; omega) | skip)))) | refine al_e rfl rfl ?_ | refine al_u rfl rfl ?_ | ((fail_if_success (refine al_t rfl rfl fun K' hK' => ?_)); refine al_s _ rfl rfl rfl (fun hb => ?_) (fun hb => ?_)))); all_goals (refine al_nil ?_; (simp only [go_sem, simprocAttr, List.length_map]); refine hK _ ?_; clear hK K))
    refine awp_if (decide ((a : Int) < (h.length : Int))) rfl (fun hc => ?_) (fun hc => ?_)
    · refine awp_skip ?_
      refine hK _ ?_; clear hK K
      refine awp_block ?_
      have ha2 : a < h.length := by simpa using hc
      obtain ⟨f', rfl⟩ : ∃ f', f = f' + 1 := ⟨f - 1, by omega⟩
      have hR2 : R0 = if (atS h a).2 != 0 then ([], 3) else objF h f' (a + roomN (atS h a).1.kind (atS h a).1.text.size (atS h a).1.parts.length) (acc ++ [(atS h a).1]) := by
        rw [hR1]; show (if a < h.length then _ else _) = _; rw [if_pos ha2]
      clear hR1
      have hat := at_ h a hlen hok
      have haok := at_ok (a := (a : Int)) (h := h)
      generalize atS h a = Q at hat haok hR2
      obtain ⟨o, e⟩ := Q
      simp only at hat haok hR2

      (refine awp_reg_seq [0, 4, 5, 6, 7] fun K hK => ?_; (repeat' (first | ((first | refine al_r rfl fun K' hK' => ?_ | refine al_d rfl fun K' hK' => ?_ | refine al_t rfl rfl fun K' hK' => ?_); (repeat (first | (simp only [go_sem, simprocAttr, List.length_map]) | refine AS.mk ?_ | refine AAp.grow ?_)); (first | ((first | refine hK' _ _ ?_ | refine ⟨?_, hK' _ _ ?_⟩ | refine ⟨?_, ?_, hK' _ _ ?_⟩ | refine ⟨?_, ?_, ?_, hK' _ _ ?_⟩) <;> clear hK' K' <;> (first | (show alist _ _ _ _ _ _; skip) | (intro s hs; cases hs; done) | assumption | (simp; done) | omega | (simp; omega) | skip)) | ((show AC _ _ (D.fn 19 _) _ _); refine acall_p (f := 19) (e := rfl) (hr := rfl) (k := hK' _ _ ?_) (hc := Try.call19) (h := hat); clear hK' K'))) | refine al_e rfl rfl ?_ | refine al_u rfl rfl ?_ | ((fail_if_success (refine al_t rfl rfl fun K' hK' => ?_)); refine al_s _ rfl rfl rfl (fun hb => ?_) (fun hb => ?_)))); all_goals (refine al_nil ?_; (simp only [go_sem, simprocAttr, List.length_map]); refine hK _ ?_; clear hK K))
      (refine awp_frz [0, 4, 5, 6, 7] [0] (by decide) (by simp) ?_; simp only [go_sem, simprocAttr, List.length_map])
      refine awp_seq_k fun K hK => ?_
      (refine awp_reg_seq [0, 4, 5, 6, 22] fun K hK => ?_; (repeat' (first | ((first | refine al_r rfl fun K' hK' => ?_ | refine al_d rfl fun K' hK' => ?_ | refine al_t rfl rfl fun K' hK' => ?_); (repeat (first | (simp only [go_sem, simprocAttr, List.length_map]) | refine AS.mk ?_ | refine AAp.grow ?_)); (first | ((first | refine hK' _ _ ?_ | refine ⟨?_, hK' _ _ ?_⟩ | refine ⟨?_, ?_, hK' _ _ ?_⟩ | refine ⟨?_, ?_, ?_, hK' _ _ ?_⟩) <;> clear hK' K' <;> (first | (show alist _ _ _ _ _ _; skip) | (intro s hs; cases hs; done) | assumption | (simp; done) | omega | (simp; omega) | skip)))) | refine al_e rfl rfl ?_ | refine al_u rfl rfl ?_ | ((fail_if_success (refine al_t rfl rfl fun K' hK' => ?_)); refine al_s _ rfl rfl rfl (fun hb => ?_) (fun hb => ?_)))); all_goals (refine al_nil ?_; (simp only [go_sem, simprocAttr, List.length_map]); refine hK _ ?_; clear hK K))
      refine awp_if (e != 0) rfl (fun hc => ?_) (fun hc => ?_)
      · (refine awp_reg_seq [2, 3] fun K hK => ?_; (repeat' (first | ((first | refine al_r rfl fun K' hK' => ?_ | refine al_d rfl fun K' hK' => ?_ | refine al_t rfl rfl fun K' hK' => ?_); (repeat (first | (simp only [go_sem, simprocAttr, List.length_map]) | refine AS.mk ?_ | refine AAp.grow ?_)); (first | ((first | refine hK' _ _ ?_ | refine ⟨?_, hK' _ _ ?_⟩ | refine ⟨?_, ?_, hK' _ _ ?_⟩ | refine ⟨?_, ?_, ?_, hK' _ _ ?_⟩) <;> clear hK' K' <;> (first | (show alist _ _ _ _ _ _; skip) | (intro s hs; cases hs; done) | assumption | (simp; done) | omega | (simp; omega) | skip)))) | refine al_e rfl rfl ?_ | refine al_u rfl rfl ?_ | ((fail_if_success (refine al_t rfl rfl fun K' hK' => ?_)); refine al_s _ rfl rfl rfl (fun hb => ?_) (fun hb => ?_)))); all_goals (refine al_nil ?_; (simp only [go_sem, simprocAttr, List.length_map]); refine hK _ ?_; clear hK K))
        refine awp_ret ?_; (first | refine hR _ _ (.inl rfl) rfl ?_ | refine hR _ _ (.inl rfl) rfl ?_ ?_)
        rw [if_pos hc] at hR2
        rw [hR2]
        simp only [go_sem, simprocAttr, List.length_map, List.map_nil]
        rfl
      · rw [if_neg (by rw [hc]; simp)] at hR2
        obtain ⟨n, hn, hnl, hoa, hri, hel, hel2, _⟩ := haok (by simpa using hc) hlen hok
        obtain rfl : a = n := by omega
        obtain ⟨hs64, hp400⟩ := right_small hri
        rw [enc_len] at hel hel2
        have hro := room o.kind o.text.size o.parts.length (by omega) (by omega)
        have hrm1 : 1 ≤ roomN o.kind o.text.size o.parts.length := by unfold roomN; omega
        generalize roomN o.kind o.text.size o.parts.length = rm at *
        have hwa : IntKind.i64.wrap ((a : Int) + (rm : Int)) = ((a + rm : Nat) : Int) := by rw [Go.Ab.wrap_small (by omega) (by omega)]; rfl
        have hta : List.take acc.length (acc.map Obj.row) = acc.map Obj.row := List.take_of_length_le (by simp)
        have hfa : (acc.length + 1) * 64 ≤ 140737488355328 := by omega

        refine awp_skip ?_
        refine hK _ ?_; clear hK K
        (refine awp_reg_seq [0, 4, 5, 6] fun K hK => ?_; (repeat' (first | ((first | refine al_r rfl fun K' hK' => ?_ | refine al_d rfl fun K' hK' => ?_ | refine al_t rfl rfl fun K' hK' => ?_); (repeat (first | (simp only [go_sem, simprocAttr, List.length_map, hwa, hta, hfa, List.drop_zero]) | refine AS.mk ?_ | refine AAp.grow ?_)); (first | ((first | refine hK' _ _ ?_ | refine ⟨?_, hK' _ _ ?_⟩ | refine ⟨?_, ?_, hK' _ _ ?_⟩ | refine ⟨?_, ?_, ?_, hK' _ _ ?_⟩) <;> clear hK' K' <;> (first | (show alist _ _ _ _ _ _; skip) | (intro s hs; cases hs; done) | assumption | (simp; done) | omega | (simp; omega) | skip)))) | refine al_e rfl rfl ?_ | refine al_u rfl rfl ?_ | ((fail_if_success (refine al_t rfl rfl fun K' hK' => ?_)); refine al_s _ rfl rfl rfl (fun hb => ?_) (fun hb => ?_)))); all_goals (refine al_nil ?_; (simp only [go_sem, simprocAttr, List.length_map, hwa, hta, hfa, List.drop_zero]); refine hK _ ?_; clear hK K))
        (refine awp_reg_end [0, 4, 5] fun K hK => ?_; (repeat' (first | ((first | refine al_r rfl fun K' hK' => ?_ | refine al_d rfl fun K' hK' => ?_ | refine al_t rfl rfl fun K' hK' => ?_); (repeat (first | (simp only [go_sem, simprocAttr, List.length_map, hwa, hta, hfa, List.drop_zero]) | refine AS.mk ?_ | refine AAp.grow ?_)); (first | ((first | refine hK' _ _ ?_ | refine ⟨?_, hK' _ _ ?_⟩ | refine ⟨?_, ?_, hK' _ _ ?_⟩ | refine ⟨?_, ?_, ?_, hK' _ _ ?_⟩) <;> clear hK' K' <;> (first | (show alist _ _ _ _ _ _; skip) | (intro s hs; cases hs; done) | assumption | (simp; done) | omega | (simp; omega) | skip)) | ((show AC _ _ (D.fn 51 _) _ _); refine acall_p (f := 51) (e := rfl) (hr := rfl) (k := hK' _ _ ?_) (hc := Try.call51) (h := hro); clear hK' K'))) | refine al_e rfl rfl ?_ | refine al_u rfl rfl ?_ | ((fail_if_success (refine al_t rfl rfl fun K' hK' => ?_)); refine al_s _ rfl rfl rfl (fun hb => ?_) (fun hb => ?_)))); all_goals (refine al_nil ?_; (simp only [go_sem, simprocAttr, List.length_map, hwa, hta, hfa, List.drop_zero]); refine hK _ ?_; clear hK K))
        refine ⟨h.length - (a + rm), by omega, [0, 4, 5], [2], by decide, by intro q hq; exact absurd hq (Nat.not_lt_zero q), a + rm, f', acc ++ [o], rfl, hel2, by simp; omega, by omega, hR2, ?_⟩
        simp only [go_sem, simprocAttr, List.length_map, hwa, hta, hfa, List.drop_zero, Obj.row]

    · have hnot : ¬ a < h.length := by simpa using hc
      have hR3 : R0 = (acc, 0) := by
        rw [hR1]
        cases f with
        | zero => rfl
        | succ f => show (if a < h.length then _ else _) = _; rw [if_neg hnot]
      have hta : List.take acc.length (acc.map Obj.row) = acc.map Obj.row := List.take_of_length_le (by simp)
      refine awp_exit ?_
      clear hK
      refine hK _ ?_; clear hK K
      (refine awp_reg_seq [2, 3] fun K hK => ?_; (repeat' (first | ((first | refine al_r rfl fun K' hK' => ?_ | refine al_d rfl fun K' hK' => ?_ | refine al_t rfl rfl fun K' hK' => ?_); (repeat (first | (simp only [go_sem, simprocAttr, List.length_map]) | refine AS.mk ?_ | refine AAp.grow ?_)); (first | ((first | refine hK' _ _ ?_ | refine ⟨?_, hK' _ _ ?_⟩ | refine ⟨?_, ?_, hK' _ _ ?_⟩ | refine ⟨?_, ?_, ?_, hK' _ _ ?_⟩) <;> clear hK' K' <;> (first | (show alist _ _ _ _ _ _; skip) | (intro s hs; cases hs; done) | assumption | (simp; done) | omega | (simp; omega) | skip)))) | refine al_e rfl rfl ?_ | refine al_u rfl rfl ?_ | ((fail_if_success (refine al_t rfl rfl fun K' hK' => ?_)); refine al_s _ rfl rfl rfl (fun hb => ?_) (fun hb => ?_)))); all_goals (refine al_nil ?_; (simp only [go_sem, simprocAttr, List.length_map]); refine hK _ ?_; clear hK K))
      refine awp_ret ?_; (first | refine hR _ _ (.inl rfl) rfl ?_ | refine hR _ _ (.inl rfl) rfl ?_ ?_)
      rw [hR3]
      simp only [go_sem, simprocAttr, List.length_map, hta]
end Go.Proofs.Ytagphggcdmjlpaa.P
