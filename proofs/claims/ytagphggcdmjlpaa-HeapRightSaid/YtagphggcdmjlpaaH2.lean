/- An object's words, put at the end of a heap: contracts. -/
import Derived.Test.YtagphggcdmjlpaaH1
set_option linter.unusedSimpArgs false
set_option linter.unusedVariables false
set_option maxHeartbeats 1000000
namespace Go.Proofs.Ytagphggcdmjlpaa.P
open Go.Ab Go.Proofs.Ytagphggcdmjlpaa.T

abbrev wD (n : Int) : D := .p (.lit (.int .u64 n))
def headS (o : Obj) : Int := bits .or .u64 (bits .or .u64 (IntKind.u64.wrap o.kind) (IntKind.u64.wrap (IntKind.u64.wrap (o.text.size : Int) * 2 ^ min 8 64))) (IntKind.u64.wrap (IntKind.u64.wrap (o.parts.length : Int) * 2 ^ min 20 64))


theorem head (o : Obj) : ACallP Try.prog 53 [objD o] (wD (headS o)) := by
  refine acallp_fn [2] Try.func53 rfl rfl Try.ntmps53 (by simp) fun R hR => ?_
  (refine awp_reg_seq [1] fun K hK => ?_; (repeat' (first | ((first | refine al_r rfl fun K' hK' => ?_ | refine al_d rfl fun K' hK' => ?_ | refine al_t rfl rfl fun K' hK' => ?_); (repeat (first | (simp only [go_sem, simprocAttr, List.length_map]) | refine AS.mk ?_ | refine AAp.grow ?_)); (first | ((first | refine hK' _ _ ?_ | refine ⟨?_, hK' _ _ ?_⟩ | refine ⟨?_, ?_, hK' _ _ ?_⟩ | refine ⟨?_, ?_, ?_, hK' _ _ ?_⟩) <;> clear hK' K' <;> (first | (show alist _ _ _ _ _ _; skip) | (intro s hs; cases hs; done) | assumption | (simp; done) | omega | (simp; omega) | skip)))) | refine al_e rfl rfl ?_ | refine al_u rfl rfl ?_ | ((fail_if_success (refine al_t rfl rfl fun K' hK' => ?_)); refine al_s _ rfl rfl rfl (fun hb => ?_) (fun hb => ?_)))); all_goals (refine al_nil ?_; (simp only [go_sem, simprocAttr, List.length_map]); refine hK _ ?_; clear hK K))
  (refine awp_frz [1] [] (by decide) (by simp) ?_; simp only [go_sem, simprocAttr, List.length_map])
  (refine awp_reg_seq [2] fun K hK => ?_; (repeat' (first | ((first | refine al_r rfl fun K' hK' => ?_ | refine al_d rfl fun K' hK' => ?_ | refine al_t rfl rfl fun K' hK' => ?_); (repeat (first | (simp only [go_sem, simprocAttr, List.length_map]) | refine AS.mk ?_ | refine AAp.grow ?_)); (first | ((first | refine hK' _ _ ?_ | refine ⟨?_, hK' _ _ ?_⟩ | refine ⟨?_, ?_, hK' _ _ ?_⟩ | refine ⟨?_, ?_, ?_, hK' _ _ ?_⟩) <;> clear hK' K' <;> (first | (show alist _ _ _ _ _ _; skip) | (intro s hs; cases hs; done) | assumption | (simp; done) | omega | (simp; omega) | skip)))) | refine al_e rfl rfl ?_ | refine al_u rfl rfl ?_ | ((fail_if_success (refine al_t rfl rfl fun K' hK' => ?_)); refine al_s _ rfl rfl rfl (fun hb => ?_) (fun hb => ?_)))); all_goals (refine al_nil ?_; (simp only [go_sem, simprocAttr, List.length_map]); refine hK _ ?_; clear hK K))
  refine awp_ret ?_; (first | refine hR _ _ (.inl rfl) rfl ?_ | refine hR _ _ (.inl rfl) rfl ?_ ?_)
  simp only [go_sem, simprocAttr, List.length_map, headS]

def numW (o : Obj) : List Int := if numK o.kind then [IntKind.u64.wrap o.num] else []

/-- One byte of a word of a text. -/
def orStep (s : ByteArray) (i k : Nat) (w : Int) : Int := match s[i + k]? with
  | some b => bits .or .u64 w (IntKind.u64.wrap (IntKind.u64.wrap (b.toNat : Int) * 2 ^ min (8 * k) 64))
  | none => w
def orF (s : ByteArray) (i : Nat) : Nat → Nat → Int → Int
  | 0, _, w => w
  | m + 1, k, w => orF s i m (k + 1) (orStep s i k w)
def wordAt (s : ByteArray) (i : Nat) : Int := orF s i 8 0 0
def textF (s : ByteArray) : Nat → Nat → List Int
  | 0, _ => []
  | m + 1, i => wordAt s i :: textF s m (i + 8)
def textW (s : ByteArray) : List Int := textF s ((s.size + 7) / 8) 0

theorem textF_len (s : ByteArray) : ∀ m i, (textF s m i).length = m
  | 0, _ => rfl
  | m + 1, i => by rw [textF, List.length_cons, textF_len s m]

/-- An object's words. -/
def encW (o : Obj) : List Int := headS o :: (numW o ++ (textW o.text ++ o.parts))

theorem enc_len (o : Obj) : (encW o).length = roomN o.kind o.text.size o.parts.length := by
  unfold encW numW textW roomN
  simp only [List.length_cons, List.length_append, textF_len]
  split <;> simp <;> omega

/-- What Put answers. -/
def putS (h : List Int) (o : Obj) : List Int × Int × Int :=
  if !rightS o then ([], 0, 1) else if decide ((h.length : Int) > 4000 - (roomN o.kind o.text.size o.parts.length : Int)) then ([], 0, 6) else (h ++ encW o, h.length, 0)


theorem cloneH (xs : List (List PV)) (hx : ∀ x, x ∈ xs → x.length = 1) (hn : xs.length ≤ 1000000) :
    ACalls Try.prog 43 [.p (.sl xs)] [] (fun r obs => r = .ref 0 0 xs.length ∧ obs = [.row 1 xs]) := by
  refine acalln_fn [2] Try.func43 rfl rfl Try.ntmps43 (by simp) fun R hR => ?_
  (refine awp_reg_seq [0] fun K hK => ?_; (repeat' (first | ((first | refine al_r rfl fun K' hK' => ?_ | refine al_d rfl fun K' hK' => ?_ | refine al_t rfl rfl fun K' hK' => ?_); (repeat (first | (simp only [go_sem, simprocAttr]) | refine AS.mk ?_ | refine AAp.grow ?_)); (first | ((first | refine hK' _ _ ?_ | refine ⟨?_, hK' _ _ ?_⟩ | refine ⟨?_, ?_, hK' _ _ ?_⟩ | refine ⟨?_, ?_, ?_, hK' _ _ ?_⟩) <;> clear hK' K' <;> (first | (show alist _ _ _ _ _ _; skip) | (intro s hs; cases hs; done) | assumption | (simp; done) | omega | (simp; omega) | skip)))) | refine al_e rfl rfl ?_ | refine al_u rfl rfl ?_ | ((fail_if_success (refine al_t rfl rfl fun K' hK' => ?_)); refine al_s _ rfl rfl rfl (fun hb => ?_) (fun hb => ?_)))); all_goals (refine al_nil ?_; (simp only [go_sem, simprocAttr]); refine hK _ ?_; clear hK K))
  refine awp_seq_k fun K hK => ?_
  refine awp_reg_seq [0, 4] fun K hK => ?_
  repeat' (first | ((first | refine al_r rfl fun K' hK' => ?_ | refine al_d rfl fun K' hK' => ?_ | refine al_t rfl rfl fun K' hK' => ?_); (repeat (first | (simp only [go_sem, simprocAttr]) | refine AS.mk ?_ | refine AAp.grow ?_)); (first | ((first | refine hK' _ _ ?_ | refine ⟨?_, hK' _ _ ?_⟩ | refine ⟨?_, ?_, hK' _ _ ?_⟩ | refine ⟨?_, ?_, ?_, hK' _ _ ?_⟩) <;> clear hK' K' <;> (first | (show alist _ _ _ _ _ _; skip) | (intro s hs; cases hs; done) | assumption | (simp; done) | omega | (simp; omega) | skip)))) | refine al_e rfl rfl ?_ | refine al_u rfl rfl ?_ | ((fail_if_success (refine al_t rfl rfl fun K' hK' => ?_)); refine al_s _ rfl rfl rfl (fun hb => ?_) (fun hb => ?_)))
  refine al_run rfl rfl (by decide) fun K' hK' => ?_
  simp only [go_sem, simprocAttr]
  refine ⟨⟨_, rfl⟩, ?_⟩
  intro b hb
  refine hK' _ _ ?_
  clear hK' K'
  (refine al_nil ?_; (simp only [go_sem, simprocAttr]); refine hK _ ?_; clear hK K)
  refine awp_if (b) rfl (fun hc => ?_) (fun hc => ?_)
  · have hx0 : xs = [] := by
      cases xs with
      | nil => rfl
      | cons y l => have := hb (by simp); rw [this] at hc; cases hc
    subst hx0
    (refine awp_reg_seq [2] fun K hK => ?_; (repeat' (first | ((first | refine al_r rfl fun K' hK' => ?_ | refine al_d rfl fun K' hK' => ?_ | refine al_t rfl rfl fun K' hK' => ?_); (repeat (first | (simp only [go_sem, simprocAttr]) | refine AS.mk ?_ | refine AAp.grow ?_)); (first | ((first | refine hK' _ _ ?_ | refine ⟨?_, hK' _ _ ?_⟩ | refine ⟨?_, ?_, hK' _ _ ?_⟩ | refine ⟨?_, ?_, ?_, hK' _ _ ?_⟩) <;> clear hK' K' <;> (first | (show alist _ _ _ _ _ _; skip) | (intro s hs; cases hs; done) | assumption | (simp; done) | omega | (simp; omega) | skip)))) | refine al_e rfl rfl ?_ | refine al_u rfl rfl ?_ | ((fail_if_success (refine al_t rfl rfl fun K' hK' => ?_)); refine al_s _ rfl rfl rfl (fun hb => ?_) (fun hb => ?_)))); all_goals (refine al_nil ?_; (simp only [go_sem, simprocAttr]); refine hK _ ?_; clear hK K))
    refine awp_born 2 1 rfl ?_
    refine awp_ret (hR _ _ [0] (.inl rfl) rfl (by simp) ?_)
    refine ⟨?_, ?_⟩ <;> simp only [go_sem, simprocAttr]
  · refine awp_skip ?_
    refine hK _ ?_; clear hK K
    refine awp_reg_seq [2] fun K hK => ?_
    repeat' (first | ((first | refine al_r rfl fun K' hK' => ?_ | refine al_d rfl fun K' hK' => ?_ | refine al_t rfl rfl fun K' hK' => ?_); (repeat (first | (simp only [go_sem, simprocAttr]) | refine AS.mk ?_ | refine AAp.grow ?_)); (first | ((first | refine hK' _ _ ?_ | refine ⟨?_, hK' _ _ ?_⟩ | refine ⟨?_, ?_, hK' _ _ ?_⟩ | refine ⟨?_, ?_, ?_, hK' _ _ ?_⟩) <;> clear hK' K' <;> (first | (show alist _ _ _ _ _ _; skip) | (intro s hs; cases hs; done) | assumption | (simp; done) | omega | (simp; omega) | skip)))) | refine al_e rfl rfl ?_ | refine al_u rfl rfl ?_ | ((fail_if_success (refine al_t rfl rfl fun K' hK' => ?_)); refine al_s _ rfl rfl rfl (fun hb => ?_) (fun hb => ?_)))
    (refine al_nil ?_; (simp only [go_sem, simprocAttr]); refine hK _ ?_; clear hK K)
    refine awp_ret (hR _ _ [1] (.inl rfl) rfl (by simp) ?_)
    refine ⟨?_, ?_⟩ <;> simp only [go_sem, simprocAttr]

theorem wrow1 (l : List Int) : ∀ x, x ∈ l.map wrow → x.length = 1 := fun x hx => by
  obtain ⟨_, _, rfl⟩ := List.mem_map.1 hx; rfl

theorem get_byte {s : ByteArray} {i : Nat} (h : i < s.size) : ∃ b, s[i]? = some b := ⟨s[i], by rw [getElem?_pos s i h]⟩

theorem right_small {o : Obj} (h : rightS o = true) : o.text.size ≤ 64 ∧ o.parts.length ≤ 400 := by
  unfold rightS at h
  simp only [Bool.and_eq_true, Bool.not_eq_true', Bool.or_eq_false_iff, decide_eq_false_iff_not] at h
  omega


theorem put (h : List Int) (o : Obj) (hlen : h.length ≤ maxLen) : ACallP Try.prog 17 [words h, objD o] (.tup [words (putS h o).1, iD (putS h o).2.1, iD (putS h o).2.2]) := by
  have hri := right o
  have hhe := head o
  have hsm := right_small (o := o)
  obtain ⟨R0, hR0⟩ : ∃ R0, R0 = putS h o := ⟨_, rfl⟩
  have hv : R0 = if !rightS o then ([], 0, 1) else if decide ((h.length : Int) > 4000 - (roomN o.kind o.text.size o.parts.length : Int)) then ([], 0, 6) else (h ++ encW o, (h.length : Int), 0) := hR0
  rw [← hR0]
  clear hR0
  have hel := enc_len o
  generalize rightS o = r at hri hsm hv
  refine acallp_fn [4, 5, 6] Try.func17 rfl rfl Try.ntmps17 (by simp) fun R hR => ?_
  (refine awp_reg_seq [0, 3] fun K hK => ?_; (repeat' (first | ((first | refine al_r rfl fun K' hK' => ?_ | refine al_d rfl fun K' hK' => ?_ | refine al_t rfl rfl fun K' hK' => ?_); (repeat (first | (simp only [go_sem, simprocAttr, List.length_map]) | refine AS.mk ?_ | refine AAp.grow ?_)); (first | ((first | refine hK' _ _ ?_ | refine ⟨?_, hK' _ _ ?_⟩ | refine ⟨?_, ?_, hK' _ _ ?_⟩ | refine ⟨?_, ?_, ?_, hK' _ _ ?_⟩) <;> clear hK' K' <;> (first | (show alist _ _ _ _ _ _; skip) | (intro s hs; cases hs; done) | assumption | (simp; done) | omega | (simp; omega) | skip)))) | refine al_e rfl rfl ?_ | refine al_u rfl rfl ?_ | ((fail_if_success (refine al_t rfl rfl fun K' hK' => ?_)); refine al_s _ rfl rfl rfl (fun hb => ?_) (fun hb => ?_)))); all_goals (refine al_nil ?_; (simp only [go_sem, simprocAttr, List.length_map]); refine hK _ ?_; clear hK K))
  (refine awp_frz [0, 3] [] (by decide) (by simp) ?_; simp only [go_sem, simprocAttr, List.length_map])
  refine awp_seq_k fun K hK => ?_
  refine awp_block ?_
  (refine awp_reg_seq [0, 3, 11] fun K hK => ?_; (repeat' (first | ((first | refine al_r rfl fun K' hK' => ?_ | refine al_d rfl fun K' hK' => ?_ | refine al_t rfl rfl fun K' hK' => ?_); (repeat (first | (simp only [go_sem, simprocAttr, List.length_map]) | refine AS.mk ?_ | refine AAp.grow ?_)); (first | ((first | refine hK' _ _ ?_ | refine ⟨?_, hK' _ _ ?_⟩ | refine ⟨?_, ?_, hK' _ _ ?_⟩ | refine ⟨?_, ?_, ?_, hK' _ _ ?_⟩) <;> clear hK' K' <;> (first | (show alist _ _ _ _ _ _; skip) | (intro s hs; cases hs; done) | assumption | (simp; done) | omega | (simp; omega) | skip)) | ((show AC _ _ (D.fn 52 _) _ _); refine acall_p (f := 52) (e := rfl) (hr := rfl) (k := hK' _ _ ?_) (hc := Try.call52) (h := hri); clear hK' K'))) | refine al_e rfl rfl ?_ | refine al_u rfl rfl ?_ | ((fail_if_success (refine al_t rfl rfl fun K' hK' => ?_)); refine al_s _ rfl rfl rfl (fun hb => ?_) (fun hb => ?_)))); all_goals (refine al_nil ?_; (simp only [go_sem, simprocAttr, List.length_map]); refine hK _ ?_; clear hK K))
  refine awp_if (_) rfl (fun hc => ?_) (fun hc => ?_)
  · (refine awp_reg_seq [4, 5, 6] fun K hK => ?_; (repeat' (first | ((first | refine al_r rfl fun K' hK' => ?_ | refine al_d rfl fun K' hK' => ?_ | refine al_t rfl rfl fun K' hK' => ?_); (repeat (first | (simp only [go_sem, simprocAttr, List.length_map]) | refine AS.mk ?_ | refine AAp.grow ?_)); (first | ((first | refine hK' _ _ ?_ | refine ⟨?_, hK' _ _ ?_⟩ | refine ⟨?_, ?_, hK' _ _ ?_⟩ | refine ⟨?_, ?_, ?_, hK' _ _ ?_⟩) <;> clear hK' K' <;> (first | (show alist _ _ _ _ _ _; skip) | (intro s hs; cases hs; done) | assumption | (simp; done) | omega | (simp; omega) | skip)))) | refine al_e rfl rfl ?_ | refine al_u rfl rfl ?_ | ((fail_if_success (refine al_t rfl rfl fun K' hK' => ?_)); refine al_s _ rfl rfl rfl (fun hb => ?_) (fun hb => ?_)))); all_goals (refine al_nil ?_; (simp only [go_sem, simprocAttr, List.length_map]); refine hK _ ?_; clear hK K))
    refine awp_ret ?_; (first | refine hR _ _ (.inl rfl) rfl ?_ | refine hR _ _ (.inl rfl) rfl ?_ ?_)
    rw [if_pos hc] at hv
    rw [hv]
    simp only [go_sem, simprocAttr, List.length_map, List.map_nil]
    rfl
  · rw [if_neg (by rw [hc]; simp)] at hv
    obtain ⟨hs64, hp400⟩ := hsm (by simpa using hc)
    have hro := room o.kind o.text.size o.parts.length (by omega) (by omega)
    have hr1 : roomN o.kind o.text.size o.parts.length ≤ 500 := by
      unfold roomN
      split <;> omega
    have hw4 : IntKind.i64.wrap (4000 - (roomN o.kind o.text.size o.parts.length : Int)) = 4000 - (roomN o.kind o.text.size o.parts.length : Int) := by rw [Go.Ab.wrap_small (by omega) (by omega)]
    generalize roomN o.kind o.text.size o.parts.length = rm at *

    (refine awp_reg_seq [0, 3, 15] fun K hK => ?_; (repeat' (first | ((first | refine al_r rfl fun K' hK' => ?_ | refine al_d rfl fun K' hK' => ?_ | refine al_t rfl rfl fun K' hK' => ?_); (repeat (first | (simp only [go_sem, simprocAttr, List.length_map, hw4]) | refine AS.mk ?_ | refine AAp.grow ?_)); (first | ((first | refine hK' _ _ ?_ | refine ⟨?_, hK' _ _ ?_⟩ | refine ⟨?_, ?_, hK' _ _ ?_⟩ | refine ⟨?_, ?_, ?_, hK' _ _ ?_⟩) <;> clear hK' K' <;> (first | (show alist _ _ _ _ _ _; skip) | (intro s hs; cases hs; done) | assumption | (simp; done) | omega | (simp; omega) | skip)) | ((show AC _ _ (D.fn 51 _) _ _); refine acall_p (f := 51) (e := rfl) (hr := rfl) (k := hK' _ _ ?_) (hc := Try.call51) (h := hro); clear hK' K'))) | refine al_e rfl rfl ?_ | refine al_u rfl rfl ?_ | ((fail_if_success (refine al_t rfl rfl fun K' hK' => ?_)); refine al_s _ rfl rfl rfl (fun hb => ?_) (fun hb => ?_)))); all_goals (refine al_nil ?_; (simp only [go_sem, simprocAttr, List.length_map, hw4]); refine hK _ ?_; clear hK K))
    refine awp_if (decide ((h.length : Int) > 4000 - (rm : Int))) rfl (fun hc => ?_) (fun hc => ?_)
    · (refine awp_reg_seq [4, 5, 6] fun K hK => ?_; (repeat' (first | ((first | refine al_r rfl fun K' hK' => ?_ | refine al_d rfl fun K' hK' => ?_ | refine al_t rfl rfl fun K' hK' => ?_); (repeat (first | (simp only [go_sem, simprocAttr, List.length_map, hw4]) | refine AS.mk ?_ | refine AAp.grow ?_)); (first | ((first | refine hK' _ _ ?_ | refine ⟨?_, hK' _ _ ?_⟩ | refine ⟨?_, ?_, hK' _ _ ?_⟩ | refine ⟨?_, ?_, ?_, hK' _ _ ?_⟩) <;> clear hK' K' <;> (first | (show alist _ _ _ _ _ _; skip) | (intro s hs; cases hs; done) | assumption | (simp; done) | omega | (simp; omega) | skip)))) | refine al_e rfl rfl ?_ | refine al_u rfl rfl ?_ | ((fail_if_success (refine al_t rfl rfl fun K' hK' => ?_)); refine al_s _ rfl rfl rfl (fun hb => ?_) (fun hb => ?_)))); all_goals (refine al_nil ?_; (simp only [go_sem, simprocAttr, List.length_map, hw4]); refine hK _ ?_; clear hK K))
      refine awp_ret ?_; (first | refine hR _ _ (.inl rfl) rfl ?_ | refine hR _ _ (.inl rfl) rfl ?_ ?_)
      rw [if_pos hc] at hv
      rw [hv]
      simp only [go_sem, simprocAttr, List.length_map, hw4, List.map_nil]
      rfl
    · rw [if_neg (by rw [hc]; simp)] at hv
      have hh4 : h.length ≤ 4000 := by simp at hc; omega
      have hcl := cloneH (h.map wrow) (wrow1 h) (by simp; omega)
      rw [List.length_map] at hcl
      have hth : List.take h.length (h.map wrow) = h.map wrow := List.take_of_length_le (by simp)
      have hfit : (h.length + 1) * 8 ≤ 140737488355328 := by omega

      refine awp_skip ?_
      refine hK _ ?_; clear hK K
      refine awp_draw_seq (by kernel_rfl) [0, 3, 7] fun K hK => ?_
      (first | (first | refine ah_r 0 rfl (by kernel_rfl) rfl fun K' hK' => ?_ | refine ah_t 0 rfl (by kernel_rfl) rfl rfl fun K' hK' => ?_); (simp only [go_sem, simprocAttr, List.length_map, hth, hfit, List.drop_zero]); (first | (refine hK' _ ?_); clear hK' K' | ((first | refine ⟨?_, hK' _ ?_⟩ | refine ⟨?_, ?_, hK' _ ?_⟩) <;> clear hK' K' <;> (first | (show alist _ _ _ _ _ _; skip) | (intro s hs; cases hs; done) | assumption | (simp; done) | omega | (simp; omega) | skip))) | refine ah_e 0 rfl (by kernel_rfl) rfl rfl ?_ | refine ah_u 0 rfl (by kernel_rfl) rfl rfl ?_)
      (first | (first | refine ah_r 2 rfl (by kernel_rfl) rfl fun K' hK' => ?_ | refine ah_t 2 rfl (by kernel_rfl) rfl rfl fun K' hK' => ?_); (simp only [go_sem, simprocAttr, List.length_map, hth, hfit, List.drop_zero]); (first | (refine hK' _ ?_); clear hK' K' | ((first | refine ⟨?_, hK' _ ?_⟩ | refine ⟨?_, ?_, hK' _ ?_⟩) <;> clear hK' K' <;> (first | (show alist _ _ _ _ _ _; skip) | (intro s hs; cases hs; done) | assumption | (simp; done) | omega | (simp; omega) | skip))) | refine ah_e 2 rfl (by kernel_rfl) rfl rfl ?_ | refine ah_u 2 rfl (by kernel_rfl) rfl rfl ?_)
      (refine ah_one 1 rfl (by kernel_rfl) ?_; (repeat' (first | ((first | refine al_r rfl fun K' hK' => ?_ | refine al_d rfl fun K' hK' => ?_ | refine al_t rfl rfl fun K' hK' => ?_); (repeat (first | (simp only [go_sem, simprocAttr, List.length_map, hth, hfit, List.drop_zero]) | refine AS.mk ?_ | refine AAp.grow ?_)); (first | ((first | refine hK' _ _ ?_ | refine ⟨?_, hK' _ _ ?_⟩ | refine ⟨?_, ?_, hK' _ _ ?_⟩ | refine ⟨?_, ?_, ?_, hK' _ _ ?_⟩) <;> clear hK' K' <;> (first | (show alist _ _ _ _ _ _; skip) | (intro s hs; cases hs; done) | assumption | (simp; done) | omega | (simp; omega) | skip)) | ((show AC _ _ (D.fn 53 _) _ _); refine acall_p (f := 53) (e := rfl) (hr := rfl) (k := hK' _ _ ?_) (hc := Try.call53) (h := hhe); clear hK' K') | ((show AC _ _ (D.fn 43 _) _ _); refine acall_new (f := 43) Try.call43 hcl rfl ?_; rintro r obs' ⟨rfl, rfl⟩; (simp only [go_sem, simprocAttr, List.length_map, hth, hfit, List.drop_zero]); refine hK' _ _ ?_; clear hK' K'))) | refine al_e rfl rfl ?_ | refine al_u rfl rfl ?_ | ((fail_if_success (refine al_t rfl rfl fun K' hK' => ?_)); refine al_s _ rfl rfl rfl (fun hb => ?_) (fun hb => ?_)))); all_goals refine al_nil ?_)
      (refine ah_one 3 rfl (by kernel_rfl) ?_; (repeat' (first | ((first | refine al_r rfl fun K' hK' => ?_ | refine al_d rfl fun K' hK' => ?_ | refine al_t rfl rfl fun K' hK' => ?_); (repeat (first | (simp only [go_sem, simprocAttr, List.length_map, hth, hfit, List.drop_zero]) | refine AS.mk ?_ | refine AAp.grow ?_)); (first | ((first | refine hK' _ _ ?_ | refine ⟨?_, hK' _ _ ?_⟩ | refine ⟨?_, ?_, hK' _ _ ?_⟩ | refine ⟨?_, ?_, ?_, hK' _ _ ?_⟩) <;> clear hK' K' <;> (first | (show alist _ _ _ _ _ _; skip) | (intro s hs; cases hs; done) | assumption | (simp; done) | omega | (simp; omega) | skip)) | ((show AC _ _ (D.fn 53 _) _ _); refine acall_p (f := 53) (e := rfl) (hr := rfl) (k := hK' _ _ ?_) (hc := Try.call53) (h := hhe); clear hK' K') | ((show AC _ _ (D.fn 43 _) _ _); refine acall_new (f := 43) Try.call43 hcl rfl ?_; rintro r obs' ⟨rfl, rfl⟩; (simp only [go_sem, simprocAttr, List.length_map, hth, hfit, List.drop_zero]); refine hK' _ _ ?_; clear hK' K'))) | refine al_e rfl rfl ?_ | refine al_u rfl rfl ?_ | ((fail_if_success (refine al_t rfl rfl fun K' hK' => ?_)); refine al_s _ rfl rfl rfl (fun hb => ?_) (fun hb => ?_)))); all_goals refine al_nil ?_)
      (refine ah_one 4 rfl (by kernel_rfl) ?_; (repeat' (first | ((first | refine al_r rfl fun K' hK' => ?_ | refine al_d rfl fun K' hK' => ?_ | refine al_t rfl rfl fun K' hK' => ?_); (repeat (first | (simp only [go_sem, simprocAttr, List.length_map, hth, hfit, List.drop_zero]) | refine AS.mk ?_ | refine AAp.grow ?_)); (first | ((first | refine hK' _ _ ?_ | refine ⟨?_, hK' _ _ ?_⟩ | refine ⟨?_, ?_, hK' _ _ ?_⟩ | refine ⟨?_, ?_, ?_, hK' _ _ ?_⟩) <;> clear hK' K' <;> (first | (show alist _ _ _ _ _ _; skip) | (intro s hs; cases hs; done) | assumption | (simp; done) | omega | (simp; omega) | skip)) | ((show AC _ _ (D.fn 53 _) _ _); refine acall_p (f := 53) (e := rfl) (hr := rfl) (k := hK' _ _ ?_) (hc := Try.call53) (h := hhe); clear hK' K') | ((show AC _ _ (D.fn 43 _) _ _); refine acall_new (f := 43) Try.call43 hcl rfl ?_; rintro r obs' ⟨rfl, rfl⟩; (simp only [go_sem, simprocAttr, List.length_map, hth, hfit, List.drop_zero]); refine hK' _ _ ?_; clear hK' K'))) | refine al_e rfl rfl ?_ | refine al_u rfl rfl ?_ | ((fail_if_success (refine al_t rfl rfl fun K' hK' => ?_)); refine al_s _ rfl rfl rfl (fun hb => ?_) (fun hb => ?_)))); all_goals refine al_nil ?_)
      (refine ah_one 5 rfl (by kernel_rfl) ?_; (repeat' (first | ((first | refine al_r rfl fun K' hK' => ?_ | refine al_d rfl fun K' hK' => ?_ | refine al_t rfl rfl fun K' hK' => ?_); (repeat (first | (simp only [go_sem, simprocAttr, List.length_map, hth, hfit, List.drop_zero]) | refine AS.mk ?_ | refine AAp.grow ?_)); (first | ((first | refine hK' _ _ ?_ | refine ⟨?_, hK' _ _ ?_⟩ | refine ⟨?_, ?_, hK' _ _ ?_⟩ | refine ⟨?_, ?_, ?_, hK' _ _ ?_⟩) <;> clear hK' K' <;> (first | (show alist _ _ _ _ _ _; skip) | (intro s hs; cases hs; done) | assumption | (simp; done) | omega | (simp; omega) | skip)) | ((show AC _ _ (D.fn 53 _) _ _); refine acall_p (f := 53) (e := rfl) (hr := rfl) (k := hK' _ _ ?_) (hc := Try.call53) (h := hhe); clear hK' K') | ((show AC _ _ (D.fn 43 _) _ _); refine acall_new (f := 43) Try.call43 hcl rfl ?_; rintro r obs' ⟨rfl, rfl⟩; (simp only [go_sem, simprocAttr, List.length_map, hth, hfit, List.drop_zero]); refine hK' _ _ ?_; clear hK' K'))) | refine al_e rfl rfl ?_ | refine al_u rfl rfl ?_ | ((fail_if_success (refine al_t rfl rfl fun K' hK' => ?_)); refine al_s _ rfl rfl rfl (fun hb => ?_) (fun hb => ?_)))); all_goals refine al_nil ?_)
      (first | (first | refine ah_r 6 rfl (by kernel_rfl) rfl fun K' hK' => ?_ | refine ah_t 6 rfl (by kernel_rfl) rfl rfl fun K' hK' => ?_); (simp only [go_sem, simprocAttr, List.length_map, hth, hfit, List.drop_zero]); (first | (refine hK' _ ?_); clear hK' K' | ((first | refine ⟨?_, hK' _ ?_⟩ | refine ⟨?_, ?_, hK' _ ?_⟩) <;> clear hK' K' <;> (first | (show alist _ _ _ _ _ _; skip) | (intro s hs; cases hs; done) | assumption | (simp; done) | omega | (simp; omega) | skip))) | refine ah_e 6 rfl (by kernel_rfl) rfl rfl ?_ | refine ah_u 6 rfl (by kernel_rfl) rfl rfl ?_)
      (refine ah_done (by kernel_rfl) ?_; (simp only [go_sem, simprocAttr, List.length_map, hth, hfit, List.drop_zero]); refine hK _ ?_; clear hK K)
      refine awp_seq_kc fun K hK hcut => ?_
      have key : ∀ W : List Int, W.length ≤ 4010 → R0 = (W ++ (textW o.text ++ o.parts), (h.length : Int), 0) → K ⟨ofL [(0, words h), (3, .rd [.lit (.int .i64 o.at_), .lit (.int .i64 o.kind), .lit (.int .i64 o.num), .lit (.string o.text), .sl (o.parts.map wrow)] 0), (7, .ref 0 0 W.length)], [.row 1 (W.map wrow)], 0⟩ := by
        clear hcut
        intro W hWl hRW
        clear hv hcl hel
        obtain ⟨M, hM⟩ : ∃ M, M = (o.text.size + 7) / 8 := ⟨_, rfl⟩
        have hM9 : M ≤ 8 := by omega
        refine hK _ ?_; clear hK K
        refine awp_seq_k fun K hK => ?_
        (refine awp_reg_seq [0, 3, 7, 8] fun K hK => ?_; (repeat' (first | ((first | refine al_r rfl fun K' hK' => ?_ | refine al_d rfl fun K' hK' => ?_ | refine al_t rfl rfl fun K' hK' => ?_); (repeat (first | (simp only [go_sem, simprocAttr, List.length_map, hth, hfit, List.drop_zero]) | refine AS.mk ?_ | refine AAp.grow ?_)); (first | ((first | refine hK' _ _ ?_ | refine ⟨?_, hK' _ _ ?_⟩ | refine ⟨?_, ?_, hK' _ _ ?_⟩ | refine ⟨?_, ?_, ?_, hK' _ _ ?_⟩) <;> clear hK' K' <;> (first | (show alist _ _ _ _ _ _; skip) | (intro s hs; cases hs; done) | assumption | (simp; done) | omega | (simp; omega) | skip)))) | refine al_e rfl rfl ?_ | refine al_u rfl rfl ?_ | ((fail_if_success (refine al_t rfl rfl fun K' hK' => ?_)); refine al_s _ rfl rfl rfl (fun hb => ?_) (fun hb => ?_)))); all_goals (refine al_nil ?_; (simp only [go_sem, simprocAttr, List.length_map, hth, hfit, List.drop_zero]); refine hK _ ?_; clear hK K))
        refine awp_block ?_
        -- loop 0 head [0, 3, 7, 8]
        refine awp_loop_cut (fun m s => ∃ (j : Nat) (V : List Int), j ≤ M ∧ m = M - j ∧ V.length = W.length + j ∧ V ++ textF o.text (M - j) (8 * j) = W ++ textW o.text ∧ s = ⟨ofL [(0, words h), (3, .rd [.lit (.int .i64 o.at_), .lit (.int .i64 o.kind), .lit (.int .i64 o.num), .lit (.string o.text), .sl (o.parts.map wrow)] 0), (7, .ref 0 0 V.length), (8, iD ((8 * j : Nat) : Int))], [.row 1 (V.map wrow)], 0⟩) ⟨_, 0, W, Nat.zero_le _, rfl, rfl, by rw [hM]; rfl, rfl⟩ ?_
        rintro m s ⟨j, V, hj, hmj, hVl, hVt, rfl⟩
        refine awp_seq_k fun K hK => ?_
        (refine awp_reg_seq [0, 3, 7, 8, 53] fun K hK => ?_; (repeat' (first | ((first | refine al_r rfl fun K' hK' => ?_ | refine al_d rfl fun K' hK' => ?_ | refine al_t rfl rfl fun K' hK' => ?_); (repeat (first | (simp only [go_sem, simprocAttr, List.length_map, hth, hfit, List.drop_zero]) | refine AS.mk ?_ | refine AAp.grow ?_)); (first | ((first | refine hK' _ _ ?_ | refine ⟨?_, hK' _ _ ?_⟩ | refine ⟨?_, ?_, hK' _ _ ?_⟩ | refine ⟨?_, ?_, ?_, hK' _ _ ?_⟩) <;> clear hK' K' <;> (first | (show alist _ _ _ _ _ _; skip) | (intro s hs; cases hs; done) | assumption | (simp; done) | omega | (simp; omega) | skip)))) | refine al_e rfl rfl ?_ | refine al_u rfl rfl ?_ | ((fail_if_success (refine al_t rfl rfl fun K' hK' => ?_)); refine al_s _ rfl rfl rfl (fun hb => ?_) (fun hb => ?_)))); all_goals (refine al_nil ?_; (simp only [go_sem, simprocAttr, List.length_map, hth, hfit, List.drop_zero]); refine hK _ ?_; clear hK K))
        refine awp_if (decide (((8 * j : Nat) : Int) < (o.text.size : Int))) rfl (fun hc => ?_) (fun hc => ?_)
        · refine awp_skip ?_
          refine hK _ ?_; clear hK K
          refine awp_seq_k fun K hK => ?_
          refine awp_block ?_
          have hj2 : j < M := by simp at hc; omega
          have htf : textF o.text (M - j) (8 * j) = wordAt o.text (8 * j) :: textF o.text (M - (j + 1)) (8 * (j + 1)) := by
            rw [show M - j = (M - (j + 1)) + 1 by omega]; rfl
          (refine awp_reg_seq [0, 3, 7, 8, 9] fun K hK => ?_; (repeat' (first | ((first | refine al_r rfl fun K' hK' => ?_ | refine al_d rfl fun K' hK' => ?_ | refine al_t rfl rfl fun K' hK' => ?_); (repeat (first | (simp only [go_sem, simprocAttr, List.length_map, hth, hfit, List.drop_zero]) | refine AS.mk ?_ | refine AAp.grow ?_)); (first | ((first | refine hK' _ _ ?_ | refine ⟨?_, hK' _ _ ?_⟩ | refine ⟨?_, ?_, hK' _ _ ?_⟩ | refine ⟨?_, ?_, ?_, hK' _ _ ?_⟩) <;> clear hK' K' <;> (first | (show alist _ _ _ _ _ _; skip) | (intro s hs; cases hs; done) | assumption | (simp; done) | omega | (simp; omega) | skip)))) | refine al_e rfl rfl ?_ | refine al_u rfl rfl ?_ | ((fail_if_success (refine al_t rfl rfl fun K' hK' => ?_)); refine al_s _ rfl rfl rfl (fun hb => ?_) (fun hb => ?_)))); all_goals (refine al_nil ?_; (simp only [go_sem, simprocAttr, List.length_map, hth, hfit, List.drop_zero]); refine hK _ ?_; clear hK K))
          refine awp_seq_k fun K hK => ?_
          (refine awp_reg_seq [0, 3, 7, 8, 9, 56] fun K hK => ?_; (repeat' (first | ((first | refine al_r rfl fun K' hK' => ?_ | refine al_d rfl fun K' hK' => ?_ | refine al_t rfl rfl fun K' hK' => ?_); (repeat (first | (simp only [go_sem, simprocAttr, List.length_map, hth, hfit, List.drop_zero]) | refine AS.mk ?_ | refine AAp.grow ?_)); (first | ((first | refine hK' _ _ ?_ | refine ⟨?_, hK' _ _ ?_⟩ | refine ⟨?_, ?_, hK' _ _ ?_⟩ | refine ⟨?_, ?_, ?_, hK' _ _ ?_⟩) <;> clear hK' K' <;> (first | (show alist _ _ _ _ _ _; skip) | (intro s hs; cases hs; done) | assumption | (simp; done) | omega | (simp; omega) | skip)))) | refine al_e rfl rfl ?_ | refine al_u rfl rfl ?_ | ((fail_if_success (refine al_t rfl rfl fun K' hK' => ?_)); refine al_s _ rfl rfl rfl (fun hb => ?_) (fun hb => ?_)))); all_goals (refine al_nil ?_; (simp only [go_sem, simprocAttr, List.length_map, hth, hfit, List.drop_zero]); refine hK _ ?_; clear hK K))
          refine awp_block ?_
          -- loop 1 head [0, 3, 7, 8, 9, 56]
          refine awp_loop (fun m s => ∃ (k : Nat) (w : Int), k ≤ 8 ∧ m = 8 - k ∧ orF o.text (8 * j) (8 - k) k w = wordAt o.text (8 * j) ∧ s = ⟨ofL [(0, words h), (3, .rd [.lit (.int .i64 o.at_), .lit (.int .i64 o.kind), .lit (.int .i64 o.num), .lit (.string o.text), .sl (o.parts.map wrow)] 0), (7, .ref 0 0 V.length), (8, iD ((8 * j : Nat) : Int)), (9, wD w), (56, iD k)], [.row 1 (V.map wrow)], 0⟩) ⟨_, 0, 0, by omega, rfl, rfl, rfl⟩ ?_
          rintro m s ⟨k, w, hk, rfl, hw, rfl⟩
          (refine awp_reg_seq [0, 3, 7, 8, 9, 56, 57] fun K hK => ?_; (repeat' (first | ((first | refine al_r rfl fun K' hK' => ?_ | refine al_d rfl fun K' hK' => ?_ | refine al_t rfl rfl fun K' hK' => ?_); (repeat (first | (simp only [go_sem, simprocAttr, List.length_map, hth, hfit, List.drop_zero]) | refine AS.mk ?_ | refine AAp.grow ?_)); (first | ((first | refine hK' _ _ ?_ | refine ⟨?_, hK' _ _ ?_⟩ | refine ⟨?_, ?_, hK' _ _ ?_⟩ | refine ⟨?_, ?_, ?_, hK' _ _ ?_⟩) <;> clear hK' K' <;> (first | (show alist _ _ _ _ _ _; skip) | (intro s hs; cases hs; done) | assumption | (simp; done) | omega | (simp; omega) | skip)))) | refine al_e rfl rfl ?_ | refine al_u rfl rfl ?_ | ((fail_if_success (refine al_t rfl rfl fun K' hK' => ?_)); refine al_s _ rfl rfl rfl (fun hb => ?_) (fun hb => ?_)))); all_goals (refine al_nil ?_; (simp only [go_sem, simprocAttr, List.length_map, hth, hfit, List.drop_zero]); refine hK _ ?_; clear hK K))
          refine awp_seq_k fun K hK => ?_
          refine awp_if (decide ((k : Int) < 8)) rfl (fun hc => ?_) (fun hc => ?_)
          · refine awp_skip ?_
            refine hK _ ?_; clear hK K
            refine awp_seq_k fun K hK => ?_
            refine awp_block ?_
            have hk2 : k < 8 := by simp at hc; omega
            have hnk : IntKind.i64.wrap ((k : Int) + 1) = ((k + 1 : Nat) : Int) := by rw [Go.Ab.wrap_small (by omega) (by omega)]; rfl
            have hwi : IntKind.i64.wrap (((8 * j : Nat) : Int) + (k : Int)) = ((8 * j + k : Nat) : Int) := by rw [Go.Ab.wrap_small (by omega) (by omega)]; rfl
            have hm8 : IntKind.i64.wrap (8 * (k : Int)) = ((8 * k : Nat) : Int) := by rw [Go.Ab.wrap_small (by omega) (by omega)]; omega
            have h80 : (0 : Int) ≤ ((8 * k : Nat) : Int) := Int.natCast_nonneg _
            have hi0 : (0 : Int) ≤ ((8 * j + k : Nat) : Int) := Int.natCast_nonneg _
            have horf : orF o.text (8 * j) (8 - k) k w = orF o.text (8 * j) (8 - (k + 1)) (k + 1) (orStep o.text (8 * j) k w) := by
              rw [show 8 - k = (8 - (k + 1)) + 1 by omega]; rfl
            rw [horf] at hw
            (refine awp_reg_seq [0, 3, 7, 8, 9, 10, 56] fun K hK => ?_; (repeat' (first | ((first | refine al_r rfl fun K' hK' => ?_ | refine al_d rfl fun K' hK' => ?_ | refine al_t rfl rfl fun K' hK' => ?_); (repeat (first | (simp only [go_sem, simprocAttr, List.length_map, hth, hfit, List.drop_zero]) | refine AS.mk ?_ | refine AAp.grow ?_)); (first | ((first | refine hK' _ _ ?_ | refine ⟨?_, hK' _ _ ?_⟩ | refine ⟨?_, ?_, hK' _ _ ?_⟩ | refine ⟨?_, ?_, ?_, hK' _ _ ?_⟩) <;> clear hK' K' <;> (first | (show alist _ _ _ _ _ _; skip) | (intro s hs; cases hs; done) | assumption | (simp; done) | omega | (simp; omega) | skip)))) | refine al_e rfl rfl ?_ | refine al_u rfl rfl ?_ | ((fail_if_success (refine al_t rfl rfl fun K' hK' => ?_)); refine al_s _ rfl rfl rfl (fun hb => ?_) (fun hb => ?_)))); all_goals (refine al_nil ?_; (simp only [go_sem, simprocAttr, List.length_map, hth, hfit, List.drop_zero]); refine hK _ ?_; clear hK K))

            (refine awp_reg_seq [0, 3, 7, 8, 9, 10, 56, 65] fun K hK => ?_; (repeat' (first | ((first | refine al_r rfl fun K' hK' => ?_ | refine al_d rfl fun K' hK' => ?_ | refine al_t rfl rfl fun K' hK' => ?_); (repeat (first | (simp only [go_sem, simprocAttr, hwi, hnk, hm8, h80, hi0]) | refine AS.mk ?_ | refine AAp.grow ?_)); (first | ((first | refine hK' _ _ ?_ | refine ⟨?_, hK' _ _ ?_⟩ | refine ⟨?_, ?_, hK' _ _ ?_⟩ | refine ⟨?_, ?_, ?_, hK' _ _ ?_⟩) <;> clear hK' K' <;> (first | (show alist _ _ _ _ _ _; skip) | (intro s hs; cases hs; done) | assumption | (simp; done) | omega | (simp; omega) | skip)))) | refine al_e rfl rfl ?_ | refine al_u rfl rfl ?_ | ((fail_if_success (refine al_t rfl rfl fun K' hK' => ?_)); refine al_s _ rfl rfl rfl (fun hb => ?_) (fun hb => ?_)))); all_goals (refine al_nil ?_; (simp only [go_sem, simprocAttr, hwi, hnk, hm8, h80, hi0]); refine hK _ ?_; clear hK K))
            refine awp_if (decide (((8 * j + k : Nat) : Int) < (o.text.size : Int))) rfl (fun hc => ?_) (fun hc => ?_)
            · obtain ⟨b, hb⟩ := get_byte (s := o.text) (i := 8 * j + k) (by simp at hc; omega)
              have hos : orStep o.text (8 * j) k w = bits .or .u64 w (IntKind.u64.wrap (IntKind.u64.wrap (b.toNat : Int) * 2 ^ min (8 * k) 64)) := by unfold orStep; rw [hb]
              rw [hos] at hw

              (refine awp_reg_end [0, 3, 7, 8, 9, 56] fun K hK => ?_; (repeat' (first | ((first | refine al_r rfl fun K' hK' => ?_ | refine al_d rfl fun K' hK' => ?_ | refine al_t rfl rfl fun K' hK' => ?_); (repeat (first | (simp only [go_sem, simprocAttr, hwi, hnk, hm8, h80, hi0, hb, Int.toNat_natCast]) | refine AS.mk ?_ | refine AAp.grow ?_)); (first | ((first | refine hK' _ _ ?_ | refine ⟨?_, hK' _ _ ?_⟩ | refine ⟨?_, ?_, hK' _ _ ?_⟩ | refine ⟨?_, ?_, ?_, hK' _ _ ?_⟩) <;> clear hK' K' <;> (first | (show alist _ _ _ _ _ _; skip) | (intro s hs; cases hs; done) | assumption | (simp; done) | omega | (simp; omega) | skip)))) | refine al_e rfl rfl ?_ | refine al_u rfl rfl ?_ | ((fail_if_success (refine al_t rfl rfl fun K' hK' => ?_)); refine al_s _ rfl rfl rfl (fun hb => ?_) (fun hb => ?_)))); all_goals (refine al_nil ?_; (simp only [go_sem, simprocAttr, hwi, hnk, hm8, h80, hi0, hb, Int.toNat_natCast]); refine hK _ ?_; clear hK K))
              refine hK _ ?_; clear hK K
              (refine awp_reg_end [0, 3, 7, 8, 9, 56] fun K hK => ?_; (repeat' (first | ((first | refine al_r rfl fun K' hK' => ?_ | refine al_d rfl fun K' hK' => ?_ | refine al_t rfl rfl fun K' hK' => ?_); (repeat (first | (simp only [go_sem, simprocAttr, hwi, hnk, hm8, h80, hi0, hb, Int.toNat_natCast]) | refine AS.mk ?_ | refine AAp.grow ?_)); (first | ((first | refine hK' _ _ ?_ | refine ⟨?_, hK' _ _ ?_⟩ | refine ⟨?_, ?_, hK' _ _ ?_⟩ | refine ⟨?_, ?_, ?_, hK' _ _ ?_⟩) <;> clear hK' K' <;> (first | (show alist _ _ _ _ _ _; skip) | (intro s hs; cases hs; done) | assumption | (simp; done) | omega | (simp; omega) | skip)))) | refine al_e rfl rfl ?_ | refine al_u rfl rfl ?_ | ((fail_if_success (refine al_t rfl rfl fun K' hK' => ?_)); refine al_s _ rfl rfl rfl (fun hb => ?_) (fun hb => ?_)))); all_goals (refine al_nil ?_; (simp only [go_sem, simprocAttr, hwi, hnk, hm8, h80, hi0, hb, Int.toNat_natCast]); refine hK _ ?_; clear hK K))
              refine ⟨_, ?_, k + 1, _, hk2, rfl, hw, rfl⟩
              omega
            · have hno : o.text[8 * j + k]? = none := getElem?_neg o.text (8 * j + k) (by simp at hc; omega)

              have hos : orStep o.text (8 * j) k w = w := by unfold orStep; rw [hno]
              rw [hos] at hw
              refine awp_skip ?_
              refine hK _ ?_; clear hK K
              (refine awp_reg_end [0, 3, 7, 8, 9, 56] fun K hK => ?_; (repeat' (first | ((first | refine al_r rfl fun K' hK' => ?_ | refine al_d rfl fun K' hK' => ?_ | refine al_t rfl rfl fun K' hK' => ?_); (repeat (first | (simp only [go_sem, simprocAttr, hwi, hnk, hm8, h80, hi0]) | refine AS.mk ?_ | refine AAp.grow ?_)); (first | ((first | refine hK' _ _ ?_ | refine ⟨?_, hK' _ _ ?_⟩ | refine ⟨?_, ?_, hK' _ _ ?_⟩ | refine ⟨?_, ?_, ?_, hK' _ _ ?_⟩) <;> clear hK' K' <;> (first | (show alist _ _ _ _ _ _; skip) | (intro s hs; cases hs; done) | assumption | (simp; done) | omega | (simp; omega) | skip)))) | refine al_e rfl rfl ?_ | refine al_u rfl rfl ?_ | ((fail_if_success (refine al_t rfl rfl fun K' hK' => ?_)); refine al_s _ rfl rfl rfl (fun hb => ?_) (fun hb => ?_)))); all_goals (refine al_nil ?_; (simp only [go_sem, simprocAttr, hwi, hnk, hm8, h80, hi0]); refine hK _ ?_; clear hK K))
              refine ⟨_, ?_, k + 1, _, hk2, rfl, hw, rfl⟩
              omega
          · have hk8 : k = 8 := by simp at hc; omega
            subst hk8
            have hw8 : w = wordAt o.text (8 * j) := hw
            have htV : List.take V.length (V.map wrow) = V.map wrow := List.take_of_length_le (by simp)
            have hfV : (V.length + 1) * 8 ≤ 140737488355328 := by omega
            have hn8 : IntKind.i64.wrap (((8 * j : Nat) : Int) + 8) = ((8 * (j + 1) : Nat) : Int) := by rw [Go.Ab.wrap_small (by omega) (by omega)]; omega

            refine awp_exit ?_
            clear hK
            refine hK _ ?_; clear hK K
            (refine awp_reg_end [0, 3, 7, 8] fun K hK => ?_; (repeat' (first | ((first | refine al_r rfl fun K' hK' => ?_ | refine al_d rfl fun K' hK' => ?_ | refine al_t rfl rfl fun K' hK' => ?_); (repeat (first | (simp only [go_sem, simprocAttr, List.length_map, htV, hfV, hn8, List.drop_zero]) | refine AS.mk ?_ | refine AAp.grow ?_)); (first | ((first | refine hK' _ _ ?_ | refine ⟨?_, hK' _ _ ?_⟩ | refine ⟨?_, ?_, hK' _ _ ?_⟩ | refine ⟨?_, ?_, ?_, hK' _ _ ?_⟩) <;> clear hK' K' <;> (first | (show alist _ _ _ _ _ _; skip) | (intro s hs; cases hs; done) | assumption | (simp; done) | omega | (simp; omega) | skip)))) | refine al_e rfl rfl ?_ | refine al_u rfl rfl ?_ | ((fail_if_success (refine al_t rfl rfl fun K' hK' => ?_)); refine al_s _ rfl rfl rfl (fun hb => ?_) (fun hb => ?_)))); all_goals (refine al_nil ?_; (simp only [go_sem, simprocAttr, List.length_map, htV, hfV, hn8, List.drop_zero]); refine hK _ ?_; clear hK K))
            refine hK _ ?_; clear hK K
            (refine awp_reg_end [0, 3, 7, 8] fun K hK => ?_; (repeat' (first | ((first | refine al_r rfl fun K' hK' => ?_ | refine al_d rfl fun K' hK' => ?_ | refine al_t rfl rfl fun K' hK' => ?_); (repeat (first | (simp only [go_sem, simprocAttr, List.length_map, htV, hfV, hn8, List.drop_zero]) | refine AS.mk ?_ | refine AAp.grow ?_)); (first | ((first | refine hK' _ _ ?_ | refine ⟨?_, hK' _ _ ?_⟩ | refine ⟨?_, ?_, hK' _ _ ?_⟩ | refine ⟨?_, ?_, ?_, hK' _ _ ?_⟩) <;> clear hK' K' <;> (first | (show alist _ _ _ _ _ _; skip) | (intro s hs; cases hs; done) | assumption | (simp; done) | omega | (simp; omega) | skip)))) | refine al_e rfl rfl ?_ | refine al_u rfl rfl ?_ | ((fail_if_success (refine al_t rfl rfl fun K' hK' => ?_)); refine al_s _ rfl rfl rfl (fun hb => ?_) (fun hb => ?_)))); all_goals (refine al_nil ?_; (simp only [go_sem, simprocAttr, List.length_map, htV, hfV, hn8, List.drop_zero]); refine hK _ ?_; clear hK K))
            refine ⟨M - (j + 1), by omega, [0, 3, 7, 8], [2], by decide, by intro q hq; exact absurd hq (Nat.not_lt_zero q), j + 1, V ++ [w], by omega, rfl, by simp; omega, ?_, ?_⟩
            · rw [← hVt, htf, hw8]; simp
            · simp only [go_sem, simprocAttr, List.length_map, htV, hfV, hn8, List.drop_zero]

        · have hjM : j = M := by simp at hc; omega
          subst hjM
          have hV2 : V = W ++ textW o.text := by rw [← hVt, Nat.sub_self]; simp [textF]
          have htV : List.take V.length (V.map wrow) = V.map wrow := List.take_of_length_le (by simp)
          have htP : List.take o.parts.length (o.parts.map wrow) = o.parts.map wrow := List.take_of_length_le (by simp)
          have hfV : (V.length + o.parts.length) * 8 ≤ 140737488355328 := by omega
          have htA : List.take (V.length + o.parts.length) (V.map wrow ++ o.parts.map wrow) = (V ++ o.parts).map wrow := by
            rw [List.take_of_length_le (by simp), List.map_append]

          refine awp_exit ?_
          clear hK
          refine hK _ ?_; clear hK K
          (refine awp_reg_seq [4, 5, 6] fun K hK => ?_; (repeat' (first | ((first | refine al_r rfl fun K' hK' => ?_ | refine al_d rfl fun K' hK' => ?_ | refine al_t rfl rfl fun K' hK' => ?_); (repeat (first | (simp only [go_sem, simprocAttr, List.length_map, htV, htP, hfV, htA, List.drop_zero]) | refine AS.mk ?_ | refine AAp.grow ?_)); (first | ((first | refine hK' _ _ ?_ | refine ⟨?_, hK' _ _ ?_⟩ | refine ⟨?_, ?_, hK' _ _ ?_⟩ | refine ⟨?_, ?_, ?_, hK' _ _ ?_⟩) <;> clear hK' K' <;> (first | (show alist _ _ _ _ _ _; skip) | (intro s hs; cases hs; done) | assumption | (simp; done) | omega | (simp; omega) | skip)))) | refine al_e rfl rfl ?_ | refine al_u rfl rfl ?_ | ((fail_if_success (refine al_t rfl rfl fun K' hK' => ?_)); refine al_s _ rfl rfl rfl (fun hb => ?_) (fun hb => ?_)))); all_goals (refine al_nil ?_; (simp only [go_sem, simprocAttr, List.length_map, htV, htP, hfV, htA, List.drop_zero]); refine hK _ ?_; clear hK K))
          refine awp_ret ?_; (first | refine hR _ _ (.inl rfl) rfl ?_ | refine hR _ _ (.inl rfl) rfl ?_ ?_)
          rw [hRW, ← List.append_assoc, ← hV2]
          simp only [go_sem, simprocAttr, List.length_map, htV, htP, hfV, htA, List.drop_zero, words]

      (refine awp_reg_tov [0, 3, 7, 42] [(42, bD (o.kind == 1 || o.kind == 4))] (h := ?_) (k := ?_); · ((repeat' (first | ((first | refine al_r rfl fun K' hK' => ?_ | refine al_d rfl fun K' hK' => ?_ | refine al_t rfl rfl fun K' hK' => ?_); (repeat (first | (simp only [go_sem, simprocAttr, List.length_map, List.drop_zero]) | refine AS.mk ?_ | refine AAp.grow ?_)); (first | ((first | refine hK' _ _ ?_ | refine ⟨?_, hK' _ _ ?_⟩ | refine ⟨?_, ?_, hK' _ _ ?_⟩ | refine ⟨?_, ?_, ?_, hK' _ _ ?_⟩) <;> clear hK' K' <;> (first | (show alist _ _ _ _ _ _; skip) | (intro s hs; cases hs; done) | assumption | (simp; done) | omega | (simp; omega) | skip)))) | refine al_e rfl rfl ?_ | refine al_u rfl rfl ?_ | ((fail_if_success (refine al_t rfl rfl fun K' hK' => ?_)); refine al_s _ rfl rfl rfl (fun hb => ?_) (fun hb => ?_)))); all_goals (refine al_nil ?_; simp only [go_sem, simprocAttr, List.length_map, List.drop_zero, *, Bool.and_true, Bool.and_false, Bool.true_and, Bool.false_and, Bool.or_true, Bool.true_or, Bool.or_false, Bool.false_or, Bool.not_true, Bool.not_false, Bool.false_eq_true]))); intro K hK; (simp only [go_sem, simprocAttr, List.length_map, List.drop_zero]); refine hK _ ?_; clear hK K
      refine awp_if (numK o.kind) rfl (fun hc => ?_) (fun hc => ?_)
      · have hRa : R0 = ((h ++ [headS o] ++ [IntKind.u64.wrap o.num]) ++ (textW o.text ++ o.parts), (h.length : Int), 0) := by rw [hv]; simp [encW, numW, hc]
        have htB : List.take (h.length + 1) (h.map wrow ++ [[.lit (.int .u64 (headS o))]]) = h.map wrow ++ [[.lit (.int .u64 (headS o))]] := List.take_of_length_le (by simp)
        have hfB : (h.length + 1 + 1) * 8 ≤ 140737488355328 := by omega

        (refine awp_reg_end [0, 3, 7] fun K hK => ?_; (repeat' (first | ((first | refine al_r rfl fun K' hK' => ?_ | refine al_d rfl fun K' hK' => ?_ | refine al_t rfl rfl fun K' hK' => ?_); (repeat (first | (simp only [go_sem, simprocAttr, List.length_map, htB, hfB, List.drop_zero]) | refine AS.mk ?_ | refine AAp.grow ?_)); (first | ((first | refine hK' _ _ ?_ | refine ⟨?_, hK' _ _ ?_⟩ | refine ⟨?_, ?_, hK' _ _ ?_⟩ | refine ⟨?_, ?_, ?_, hK' _ _ ?_⟩) <;> clear hK' K' <;> (first | (show alist _ _ _ _ _ _; skip) | (intro s hs; cases hs; done) | assumption | (simp; done) | omega | (simp; omega) | skip)))) | refine al_e rfl rfl ?_ | refine al_u rfl rfl ?_ | ((fail_if_success (refine al_t rfl rfl fun K' hK' => ?_)); refine al_s _ rfl rfl rfl (fun hb => ?_) (fun hb => ?_)))); all_goals (refine al_nil ?_; (simp only [go_sem, simprocAttr, List.length_map, htB, hfB, List.drop_zero]); refine hK _ ?_; clear hK K))
        (first
          | (refine hcut _ [0, 3, 7] [4] (by decide) (by intro q hq; exact absurd hq (Nat.not_lt_zero q)) ?_; have hk := key (h ++ [headS o] ++ [IntKind.u64.wrap o.num]) (by simp; omega) hRa; simp only [List.length_append, List.length_cons, List.length_nil, List.map_append, List.map_cons, List.map_nil, Nat.zero_add] at hk; simp only [go_sem, simprocAttr, List.length_map, htB, hfB, List.drop_zero]; exact hk)
          | (refine hcut _ [0, 3, 7] [2] (by decide) (by intro q hq; exact absurd hq (Nat.not_lt_zero q)) ?_; have hk := key (h ++ [headS o]) (by simp; omega) hRb; simp only [List.length_append, List.length_cons, List.length_nil, List.map_append, List.map_cons, List.map_nil, Nat.zero_add] at hk; simp only [go_sem, simprocAttr, List.length_map, htB, hfB, List.drop_zero]; exact hk))
      · have hRb : R0 = ((h ++ [headS o]) ++ (textW o.text ++ o.parts), (h.length : Int), 0) := by rw [hv]; simp [encW, numW, hc]

        refine awp_skip ?_
        (first
          | (refine hcut _ [0, 3, 7] [4] (by decide) (by intro q hq; exact absurd hq (Nat.not_lt_zero q)) ?_; have hk := key (h ++ [headS o] ++ [IntKind.u64.wrap o.num]) (by simp; omega) hRa; simp only [List.length_append, List.length_cons, List.length_nil, List.map_append, List.map_cons, List.map_nil, Nat.zero_add] at hk; simp only [go_sem, simprocAttr, List.length_map, List.drop_zero]; exact hk)
          | (refine hcut _ [0, 3, 7] [2] (by decide) (by intro q hq; exact absurd hq (Nat.not_lt_zero q)) ?_; have hk := key (h ++ [headS o]) (by simp; omega) hRb; simp only [List.length_append, List.length_cons, List.length_nil, List.map_append, List.map_cons, List.map_nil, Nat.zero_add] at hk; simp only [go_sem, simprocAttr, List.length_map, List.drop_zero]; exact hk))
end Go.Proofs.Ytagphggcdmjlpaa.P
