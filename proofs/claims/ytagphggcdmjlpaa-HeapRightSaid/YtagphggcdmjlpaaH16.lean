/- A value is read as it lies in a heap: a contract. -/
import Derived.Test.YtagphggcdmjlpaaH15
import Derived.Laws.Strings
set_option linter.unusedSimpArgs false
set_option linter.unusedVariables false
set_option maxHeartbeats 1000000
namespace Go.Proofs.Ytagphggcdmjlpaa.P
open Go.Ab Go.Proofs.Ytagphggcdmjlpaa.T

/-- Words and values, pairwise; how deep at most, how many together. -/
def RepL (R : Int → List PV → Nat → Nat → Prop) : List Int → List (List PV) → Nat → Nat → Prop
  | [], [], d, c => d = 0 ∧ c = 0
  | w :: ws, x :: xs, d, c => ∃ d1 c1 d2 c2, R w x d1 c1 ∧ RepL R ws xs d2 c2 ∧ d = max d1 d2 ∧ c = c1 + c2
  | _, _, _, _ => False

/-- A word of a heap is a value, so deep, of so many nodes. -/
def Rep (g : List Int) : Nat → Int → List PV → Nat → Nat → Prop
  | 0, _, _, _, _ => False
  | f + 1, w, xs, d, c => ∃ k n text args, xs = [.lit (.int .i64 k), .lit (.int .i64 n), .lit (.string text), .sl args] ∧
    (((ofS k n text args).2 = true ∧ w = (ofS k n text args).1 ∧ d = 1 ∧ c = 1) ∨
     (∃ (a : Nat) (o : Obj) (d0 c0 : Nat), a ≤ 4000 ∧ w = (wordS 4 a).1 ∧ atS g a = (o, 0) ∧ rightS o = true ∧ kindsS o.kind = k ∧ o.num = n ∧ o.text = text ∧ RepL (Rep g f) o.parts args d0 c0 ∧ d = d0 + 1 ∧ c = c0 + 1))

theorem RepL.len {R : Int → List PV → Nat → Nat → Prop} : ∀ {ws : List Int} {xs : List (List PV)} {d c : Nat}, RepL R ws xs d c → ws.length = xs.length
  | [], [], _, _, _ => rfl
  | w :: ws, x :: xs, d, c, h => by
    obtain ⟨_, _, _, _, _, h, _⟩ := h
    simp [h.len]

theorem RepL.mono {R R' : Int → List PV → Nat → Nat → Prop} (hR : ∀ w x d c, R w x d c → R' w x d c) : ∀ {ws : List Int} {xs : List (List PV)} {d c : Nat}, RepL R ws xs d c → RepL R' ws xs d c
  | [], [], _, _, h => h
  | w :: ws, x :: xs, d, c, h => by
    obtain ⟨d1, c1, d2, c2, h1, h2, h3, h4⟩ := h
    exact ⟨d1, c1, d2, c2, hR _ _ _ _ h1, h2.mono hR, h3, h4⟩

theorem Rep.mono {g : List Int} : ∀ {f f' : Nat}, f ≤ f' → ∀ w xs d c, Rep g f w xs d c → Rep g f' w xs d c
  | 0, _, _, _, _, _, _, h => h.elim
  | f + 1, 0, hf, _, _, _, _, _ => by omega
  | f + 1, f' + 1, hf, w, xs, d, c, h => by
    obtain ⟨k, n, text, args, e, h | ⟨a, o, d0, c0, h1, h2, h3, h4, h5, h6, h7, h8, h9⟩⟩ := h
    · exact ⟨k, n, text, args, e, .inl h⟩
    · exact ⟨k, n, text, args, e, .inr ⟨a, o, d0, c0, h1, h2, h3, h4, h5, h6, h7, h8.mono (Rep.mono (by omega)), h9⟩⟩

theorem Rep.one {g : List Int} {f : Nat} {w : Int} {xs : List PV} {d c : Nat} (h : Rep g f w xs d c) : 1 ≤ d ∧ 1 ≤ c := by
  cases f with
  | zero => exact h.elim
  | succ f =>
    obtain ⟨k, n, text, args, e, h | ⟨a, o, d0, c0, _, _, _, _, _, _, _, _, h1, h2⟩⟩ := h
    · omega
    · omega

theorem RepL.zero {g : List Int} {f : Nat} {ws : List Int} {xs : List (List PV)} {d c : Nat} (h : RepL (Rep g f) ws xs d c) : ws.length ≤ c := by
  induction ws generalizing xs d c with
  | nil => exact Nat.zero_le _
  | cons w ws ih =>
    cases xs with
    | nil => exact h.elim
    | cons x xs =>
      obtain ⟨d1, c1, d2, c2, h1, h2, h3, h4⟩ := h
      have := ih h2
      have := h1.one
      simp only [List.length_cons]; omega

theorem text_nil {t : ByteArray} (h : (t.toList == (ByteArray.mk #[]).toList) = true) : t = ByteArray.empty := by
  rw [ByteArray.toList_eq, ByteArray.toList_eq] at h
  have h : t.data.toList = [] := by simpa using h
  obtain ⟨d⟩ := t
  have : d = #[] := by simpa using h
  subst this
  rfl

theorem of_leaf {k n : Int} {text : ByteArray} {args : List (List PV)} (h : (ofS k n text args).2 = true) : text = ByteArray.empty ∧ args = [] := by
  unfold ofS at h
  split at h
  · cases h
  · rename_i hc
    simp only [Bool.or_eq_true, not_or, Bool.not_eq_true', Bool.not_eq_false, decide_eq_true_eq] at hc
    exact ⟨text_nil hc.1.2, List.length_eq_zero_iff.1 (by omega)⟩

theorem word4_read {a : Nat} (h : a ≤ 4000) : readS (wordS 4 (a : Int)).1 = (4, (a : Int), 0) := by
  have : fits 4 (a : Int) = true := by
    unfold fits
    have h1 : decide ((a : Int) ≥ 0) = true := by simp
    have h2 : decide ((a : Int) < 1152921504606846976) = true := by simp; omega
    rw [h1, h2]; simp
  exact read_word this

theorem word4_value {a : Nat} (h : a ≤ 4000) : valueS (wordS 4 (a : Int)).1 = (0, 0, false) := by
  unfold valueS
  rw [word4_read h]
  rfl

theorem left_small {l : Int} (h : 1 ≤ l) (h2 : l ≤ 100000) : IntKind.i64.wrap (l - 1) = l - 1 := Go.Ab.wrap_small (by omega) (by omega)


theorem readLeaf (g : List Int) (w k n nest left : Int) (hva : ACallP Try.prog 81 [wD w] (.tup [.agg [iD k, iD n, .p (.lit (.string ByteArray.empty)), .p (.sl [])], bD true])) (hl1 : 1 ≤ left) (hl2 : left ≤ 100000) (hn : 1 ≤ nest) :
    ACalls Try.prog 58 [words g, wD w, iD nest, .ptr 0 0 0] [.box [iD left]] (fun r obs' => r = .tup [valD k n ByteArray.empty [], iD 0] ∧ obs' = [.box [iD (left - 1)]]) := by
  have hwl := left_small hl1 hl2
  have c1 : decide (left - 1 < 0) = false := by simp; omega
  have c2 : decide (nest < 1) = false := by simp; omega
  refine acallm_fnv [.cell 8 38, .tmp 9] Try.func58 rfl rfl Try.ntmps58 (by simp) (by simp) fun R hR => ?_
  (refine awp_reg_seq [0, 1, 2, 3, 8] fun K hK => ?_; (repeat' (first | ((first | refine al_r rfl fun K' hK' => ?_ | refine al_d rfl fun K' hK' => ?_ | refine al_t rfl rfl fun K' hK' => ?_); (repeat (first | (simp only [go_sem, simprocAttr]) | refine AS.mk ?_ | refine AAp.grow ?_)); (first | ((first | refine hK' _ _ ?_ | refine ⟨?_, hK' _ _ ?_⟩ | refine ⟨?_, ?_, hK' _ _ ?_⟩ | refine ⟨?_, ?_, ?_, hK' _ _ ?_⟩) <;> clear hK' K' <;> (first | (show alist _ _ _ _ _ _; skip) | (intro s hs; cases hs; done) | assumption | (simp; done) | omega | (simp; omega) | skip)))) | refine al_e rfl rfl ?_ | refine al_u rfl rfl ?_ | ((fail_if_success (refine al_t rfl rfl fun K' hK' => ?_)); refine al_s _ rfl rfl rfl (fun hb => ?_) (fun hb => ?_)))); all_goals (refine al_nil ?_; (simp only [go_sem, simprocAttr]); refine hK _ ?_; clear hK K))
  refine awp_seq_k fun K hK => ?_

  (refine awp_reg_seq [0, 1, 2, 3, 8] fun K hK => ?_; (repeat' (first | ((first | refine al_r rfl fun K' hK' => ?_ | refine al_d rfl fun K' hK' => ?_ | refine al_t rfl rfl fun K' hK' => ?_); (repeat (first | (simp only [go_sem, simprocAttr, hwl, c1, c2]) | refine AS.mk ?_ | refine AAp.grow ?_)); (first | ((first | refine hK' _ _ ?_ | refine ⟨?_, hK' _ _ ?_⟩ | refine ⟨?_, ?_, hK' _ _ ?_⟩ | refine ⟨?_, ?_, ?_, hK' _ _ ?_⟩) <;> clear hK' K' <;> (first | (show alist _ _ _ _ _ _; skip) | (intro s hs; cases hs; done) | assumption | (simp; done) | omega | (simp; omega) | skip)))) | refine al_e rfl rfl ?_ | refine al_u rfl rfl ?_ | ((fail_if_success (refine al_t rfl rfl fun K' hK' => ?_)); refine al_s _ rfl rfl rfl (fun hb => ?_) (fun hb => ?_)))); all_goals (refine al_nil ?_; (simp only [go_sem, simprocAttr, hwl, c1, c2]); refine hK _ ?_; clear hK K))
  (refine awp_reg_tov [0, 1, 2, 3, 8, 33] [(33, bD false)] (h := ?_) (k := ?_); · ((repeat' (first | ((first | refine al_r rfl fun K' hK' => ?_ | refine al_d rfl fun K' hK' => ?_ | refine al_t rfl rfl fun K' hK' => ?_); (repeat (first | (simp only [go_sem, simprocAttr, hwl, c1, c2]) | refine AS.mk ?_ | refine AAp.grow ?_)); (first | ((first | refine hK' _ _ ?_ | refine ⟨?_, hK' _ _ ?_⟩ | refine ⟨?_, ?_, hK' _ _ ?_⟩ | refine ⟨?_, ?_, ?_, hK' _ _ ?_⟩) <;> clear hK' K' <;> (first | (show alist _ _ _ _ _ _; skip) | (intro s hs; cases hs; done) | assumption | (simp; done) | omega | (simp; omega) | skip)))) | refine al_e rfl rfl ?_ | refine al_u rfl rfl ?_ | ((fail_if_success (refine al_t rfl rfl fun K' hK' => ?_)); refine al_s _ rfl rfl rfl (fun hb => ?_) (fun hb => ?_)))); all_goals (refine al_nil ?_; simp only [go_sem, simprocAttr, hwl, c1, c2, *, Bool.and_true, Bool.and_false, Bool.true_and, Bool.false_and, Bool.or_true, Bool.true_or, Bool.or_false, Bool.false_or, Bool.not_true, Bool.not_false, Bool.false_eq_true]))); intro K hK; (simp only [go_sem, simprocAttr, hwl, c1, c2]); refine hK _ ?_; clear hK K
  refine awp_if (_) rfl (fun hc => ?_) (fun hc => ?_)
  · cases hc
  · refine awp_skip ?_
    refine hK _ ?_; clear hK K
    refine awp_seq_k fun K hK => ?_
    (refine awp_reg_seq [0, 1, 2, 3, 8, 10, 11] fun K hK => ?_; (repeat' (first | ((first | refine al_r rfl fun K' hK' => ?_ | refine al_d rfl fun K' hK' => ?_ | refine al_t rfl rfl fun K' hK' => ?_); (repeat (first | (simp only [go_sem, simprocAttr, hwl, c1, c2]) | refine AS.mk ?_ | refine AAp.grow ?_)); (first | ((first | refine hK' _ _ ?_ | refine ⟨?_, hK' _ _ ?_⟩ | refine ⟨?_, ?_, hK' _ _ ?_⟩ | refine ⟨?_, ?_, ?_, hK' _ _ ?_⟩) <;> clear hK' K' <;> (first | (show alist _ _ _ _ _ _; skip) | (intro s hs; cases hs; done) | assumption | (simp; done) | omega | (simp; omega) | skip)) | ((show AC _ _ (D.fn 81 _) _ _); refine acall_p (f := 81) (e := rfl) (hr := rfl) (k := hK' _ _ ?_) (hc := Try.call81) (h := hva); clear hK' K'))) | refine al_e rfl rfl ?_ | refine al_u rfl rfl ?_ | ((fail_if_success (refine al_t rfl rfl fun K' hK' => ?_)); refine al_s _ rfl rfl rfl (fun hb => ?_) (fun hb => ?_)))); all_goals (refine al_nil ?_; (simp only [go_sem, simprocAttr, hwl, c1, c2]); refine hK _ ?_; clear hK K))
    (refine awp_frz [0, 1, 2, 3, 8, 10, 11] [0, 1] (by decide) (by simp) ?_; simp only [go_sem, simprocAttr, hwl, c1, c2])
    (refine awp_reg_seq [0, 1, 2, 3, 8, 10, 40] fun K hK => ?_; (repeat' (first | ((first | refine al_r rfl fun K' hK' => ?_ | refine al_d rfl fun K' hK' => ?_ | refine al_t rfl rfl fun K' hK' => ?_); (repeat (first | (simp only [go_sem, simprocAttr, hwl, c1, c2]) | refine AS.mk ?_ | refine AAp.grow ?_)); (first | ((first | refine hK' _ _ ?_ | refine ⟨?_, hK' _ _ ?_⟩ | refine ⟨?_, ?_, hK' _ _ ?_⟩ | refine ⟨?_, ?_, ?_, hK' _ _ ?_⟩) <;> clear hK' K' <;> (first | (show alist _ _ _ _ _ _; skip) | (intro s hs; cases hs; done) | assumption | (simp; done) | omega | (simp; omega) | skip)))) | refine al_e rfl rfl ?_ | refine al_u rfl rfl ?_ | ((fail_if_success (refine al_t rfl rfl fun K' hK' => ?_)); refine al_s _ rfl rfl rfl (fun hb => ?_) (fun hb => ?_)))); all_goals (refine al_nil ?_; (simp only [go_sem, simprocAttr, hwl, c1, c2]); refine hK _ ?_; clear hK K))
    refine awp_if (_) rfl (fun hc => ?_) (fun hc => ?_)
    · (refine awp_reg_seq [8, 9] fun K hK => ?_; (repeat' (first | ((first | refine al_r rfl fun K' hK' => ?_ | refine al_d rfl fun K' hK' => ?_ | refine al_t rfl rfl fun K' hK' => ?_); (repeat (first | (simp only [go_sem, simprocAttr, hwl, c1, c2]) | refine AS.mk ?_ | refine AAp.grow ?_)); (first | ((first | refine hK' _ _ ?_ | refine ⟨?_, hK' _ _ ?_⟩ | refine ⟨?_, ?_, hK' _ _ ?_⟩ | refine ⟨?_, ?_, ?_, hK' _ _ ?_⟩) <;> clear hK' K' <;> (first | (show alist _ _ _ _ _ _; skip) | (intro s hs; cases hs; done) | assumption | (simp; done) | omega | (simp; omega) | skip)))) | refine al_e rfl rfl ?_ | refine al_u rfl rfl ?_ | ((fail_if_success (refine al_t rfl rfl fun K' hK' => ?_)); refine al_s _ rfl rfl rfl (fun hb => ?_) (fun hb => ?_)))); all_goals (refine al_nil ?_; (simp only [go_sem, simprocAttr, hwl, c1, c2]); refine hK _ ?_; clear hK K))
      (refine awp_frz [8, 9] [0] (by decide) (by simp) ?_; simp only [go_sem, simprocAttr, hwl, c1, c2])
      refine awp_ret (hR _ _ (.inl rfl) rfl ⟨[0], (.tup [valD k n ByteArray.empty [], iD 0]), by decide, by simp only [List.length_cons, List.length_nil]; decide, ?_, ?_⟩)
      · simp only [go_sem, simprocAttr, hwl, c1, c2]
      · refine ⟨?_, ?_⟩ <;> simp only [go_sem, simprocAttr, hwl, c1, c2]
    · cases hc
end Go.Proofs.Ytagphggcdmjlpaa.P
