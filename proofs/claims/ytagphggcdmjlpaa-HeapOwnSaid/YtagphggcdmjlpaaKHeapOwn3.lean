/- Texts of this proof, joined: H2, AbK, H3, H4, H5, H6, H7, H8, H9, H10, H11, H12, H13, H15, Y1, Y2, Y3, Y5, Y7, Y8, AbL. -/
import Derived.Test.YtagphggcdmjlpaaKHeapOwn2
import Derived.Laws.Bits64b
import Derived.Laws.BitsLemmas
set_option linter.unusedSimpArgs false
set_option linter.unusedVariables false
set_option maxHeartbeats 1000000
/- An object's words, put at the end of a heap: contracts. -/
namespace Go.Proofs.Ytagphggcdmjlpaa.P
open Go.Ab Go.Proofs.Ytagphggcdmjlpaa.T

abbrev wD (n : Int) : D := .p (.lit (.int .u64 n))
def headS (o : Obj) : Int := bits .or .u64 (bits .or .u64 (IntKind.u64.wrap o.kind) (IntKind.u64.wrap (IntKind.u64.wrap (o.text.size : Int) * 2 ^ min 8 64))) (IntKind.u64.wrap (IntKind.u64.wrap (o.parts.length : Int) * 2 ^ min 20 64))


theorem head (o : Obj) : ACallP Try.prog 53 [objD o] (wD (headS o)) := by
  refine acallp_fn [2] Try.func53 rfl rfl Try.ntmps53 (by simp) fun R hR => ?_
  (refine awp_reg_seq [1] fun K hK => ?_; (repeat' ((refine al_r rfl fun K' hK' => ?_); (repeat (simp only [go_sem, simprocAttr, List.length_map])); ((refine hK' _ _ ?_) <;> clear hK' K'))); all_goals (refine al_nil ?_; (simp only [go_sem, simprocAttr, List.length_map]); refine hK _ ?_; clear hK K))
  (refine awp_frz [1] [] (by decide) (by (simp; done)) ?_; simp only [go_sem, simprocAttr, List.length_map])
  (refine awp_reg_seq [2] fun K hK => ?_; (repeat' ((refine al_r rfl fun K' hK' => ?_); (repeat (simp only [go_sem, simprocAttr, List.length_map])); ((first | refine hK' _ _ ?_ | refine ⟨?_, hK' _ _ ?_⟩) <;> clear hK' K' <;> (first | (show alist _ _ _ _ _ _; skip) | (intro s hs; cases hs; done) | (simp; done))))); all_goals (refine al_nil ?_; (simp only [go_sem, simprocAttr, List.length_map]); refine hK _ ?_; clear hK K))
  refine awp_ret ?_; (refine hR _ _ (.inl rfl) rfl ?_)
  simp only [go_sem, simprocAttr, List.length_map, headS]

def numW (o : Obj) : List Int := if numK o.kind then [IntKind.u64.wrap o.num] else []

/-- One byte of a word of a text. -/
def orStep (s : ByteArray) (i k : Nat) (w : Int) : Int := match s[i + k]? with
  | some b => bits .or .u64 w (IntKind.u64.wrap (IntKind.u64.wrap (b.toNat : Int) * 2 ^ min (8 * k) 64))
  | none => w
def orF (s : ByteArray) (i : Nat) : Nat → Nat → Int → Int
  | 0, _, w => w
  | m + 1, k, w => orF s i m (k + 1) (orStep s i k w)
def wordAt (s : ByteArray) (i : Nat) : Int := orF s i 8 0 0
def textF (s : ByteArray) : Nat → Nat → List Int
  | 0, _ => []
  | m + 1, i => wordAt s i :: textF s m (i + 8)
def textW (s : ByteArray) : List Int := textF s ((s.size + 7) / 8) 0

theorem textF_len (s : ByteArray) : ∀ m i, (textF s m i).length = m
  | 0, _ => rfl
  | m + 1, i => by rw [textF, List.length_cons, textF_len s m]

/-- An object's words. -/
def encW (o : Obj) : List Int := headS o :: (numW o ++ (textW o.text ++ o.parts))

theorem enc_len (o : Obj) : (encW o).length = roomN o.kind o.text.size o.parts.length := by
  unfold encW numW textW roomN
  simp only [List.length_cons, List.length_append, textF_len]
  split <;> simp <;> omega

/-- What Put answers. -/
def putS (h : List Int) (o : Obj) : List Int × Int × Int :=
  if !rightS o then ([], 0, 1) else if decide ((h.length : Int) > 4000 - (roomN o.kind o.text.size o.parts.length : Int)) then ([], 0, 6) else (h ++ encW o, h.length, 0)


theorem cloneH (xs : List (List PV)) (hx : ∀ x, x ∈ xs → x.length = 1) (hn : xs.length ≤ 1000000) :
    ACalls Try.prog 43 [.p (.sl xs)] [] (fun r obs => r = .ref 0 0 xs.length ∧ obs = [.row 1 xs]) := by
  refine acalln_fn [2] Try.func43 rfl rfl Try.ntmps43 (by simp) fun R hR => ?_
  (refine awp_reg_seq [0] fun K hK => ?_; (repeat' ((refine al_r rfl fun K' hK' => ?_); (repeat (simp only [go_sem, simprocAttr])); ((refine hK' _ _ ?_) <;> clear hK' K'))); all_goals (refine al_nil ?_; (simp only [go_sem, simprocAttr]); refine hK _ ?_; clear hK K))
  refine awp_seq_k fun K hK => ?_
  refine awp_reg_seq [0, 4] fun K hK => ?_
  repeat' ((refine al_r rfl fun K' hK' => ?_); (repeat (simp only [go_sem, simprocAttr])); ((refine hK' _ _ ?_) <;> clear hK' K'))
  refine al_run rfl rfl (by decide) fun K' hK' => ?_
  simp only [go_sem, simprocAttr]
  refine ⟨⟨_, rfl⟩, ?_⟩
  intro b hb
  refine hK' _ _ ?_
  clear hK' K'
  (refine al_nil ?_; (simp only [go_sem, simprocAttr]); refine hK _ ?_; clear hK K)
  refine awp_if (b) rfl (fun hc => ?_) (fun hc => ?_)
  · have hx0 : xs = [] := by
      cases xs with
      | nil => rfl
      | cons y l => have := hb (by simp); rw [this] at hc; cases hc
    subst hx0
    (refine awp_reg_seq [2] fun K hK => ?_; (repeat' ((refine al_r rfl fun K' hK' => ?_); (repeat (simp only [go_sem, simprocAttr])); ((refine hK' _ _ ?_) <;> clear hK' K'))); all_goals (refine al_nil ?_; (simp only [go_sem, simprocAttr]); refine hK _ ?_; clear hK K))
    refine awp_born 2 1 rfl ?_
    refine awp_ret (hR _ _ [0] (.inl rfl) rfl (by simp) ?_)
    refine ⟨?_, ?_⟩ <;> simp only [go_sem, simprocAttr]
  · refine awp_skip ?_
    refine hK _ ?_; clear hK K
    refine awp_reg_seq [2] fun K hK => ?_
    repeat' ((refine al_r rfl fun K' hK' => ?_); (repeat (first | (simp only [go_sem, simprocAttr]) | refine AAp.grow ?_)); ((first | refine hK' _ _ ?_ | refine ⟨?_, ?_, hK' _ _ ?_⟩) <;> clear hK' K' <;> (first | (show alist _ _ _ _ _ _; skip) | assumption | omega)))
    (refine al_nil ?_; (simp only [go_sem, simprocAttr]); refine hK _ ?_; clear hK K)
    refine awp_ret (hR _ _ [1] (.inl rfl) rfl (by simp) ?_)
    refine ⟨?_, ?_⟩ <;> simp only [go_sem, simprocAttr]

theorem wrow1 (l : List Int) : ∀ x, x ∈ l.map wrow → x.length = 1 := fun x hx => by
  obtain ⟨_, _, rfl⟩ := List.mem_map.1 hx; rfl

theorem get_byte {s : ByteArray} {i : Nat} (h : i < s.size) : ∃ b, s[i]? = some b := ⟨s[i], by rw [getElem?_pos s i h]⟩

theorem right_small {o : Obj} (h : rightS o = true) : o.text.size ≤ 64 ∧ o.parts.length ≤ 400 := by
  unfold rightS at h
  simp only [Bool.and_eq_true, Bool.not_eq_true', Bool.or_eq_false_iff, decide_eq_false_iff_not] at h
  omega


theorem put (h : List Int) (o : Obj) (hlen : h.length ≤ maxLen) : ACallP Try.prog 17 [words h, objD o] (.tup [words (putS h o).1, iD (putS h o).2.1, iD (putS h o).2.2]) := by
  have hri := right o
  have hhe := head o
  have hsm := right_small (o := o)
  obtain ⟨R0, hR0⟩ : ∃ R0, R0 = putS h o := ⟨_, rfl⟩
  have hv : R0 = if !rightS o then ([], 0, 1) else if decide ((h.length : Int) > 4000 - (roomN o.kind o.text.size o.parts.length : Int)) then ([], 0, 6) else (h ++ encW o, (h.length : Int), 0) := hR0
  rw [← hR0]
  clear hR0
  have hel := enc_len o
  generalize rightS o = r at hri hsm hv
  refine acallp_fn [4, 5, 6] Try.func17 rfl rfl Try.ntmps17 (by simp) fun R hR => ?_
  (refine awp_reg_seq [0, 3] fun K hK => ?_; (repeat' ((refine al_r rfl fun K' hK' => ?_); (repeat (simp only [go_sem, simprocAttr, List.length_map])); ((refine hK' _ _ ?_) <;> clear hK' K'))); all_goals (refine al_nil ?_; (simp only [go_sem, simprocAttr, List.length_map]); refine hK _ ?_; clear hK K))
  (refine awp_frz [0, 3] [] (by decide) (by (simp; done)) ?_; simp only [go_sem, simprocAttr, List.length_map])
  refine awp_seq_k fun K hK => ?_
  refine awp_block ?_
  (refine awp_reg_seq [0, 3, 11] fun K hK => ?_; (repeat' ((refine al_r rfl fun K' hK' => ?_); (repeat (simp only [go_sem, simprocAttr, List.length_map])); (first | ((refine hK' _ _ ?_) <;> clear hK' K') | ((show AC _ _ (D.fn 52 _) _ _); refine acall_p (f := 52) (e := rfl) (hr := rfl) (k := hK' _ _ ?_) (hc := Try.call52) (h := hri); clear hK' K')))); all_goals (refine al_nil ?_; (simp only [go_sem, simprocAttr, List.length_map]); refine hK _ ?_; clear hK K))
  refine awp_if (_) rfl (fun hc => ?_) (fun hc => ?_)
  · (refine awp_reg_seq [4, 5, 6] fun K hK => ?_; (repeat' ((refine al_r rfl fun K' hK' => ?_); (repeat (simp only [go_sem, simprocAttr, List.length_map])); ((refine hK' _ _ ?_) <;> clear hK' K'))); all_goals (refine al_nil ?_; (simp only [go_sem, simprocAttr, List.length_map]); refine hK _ ?_; clear hK K))
    refine awp_ret ?_; (refine hR _ _ (.inl rfl) rfl ?_)
    rw [if_pos hc] at hv
    rw [hv]
    simp only [go_sem, simprocAttr, List.length_map, List.map_nil]
    rfl
  · rw [if_neg (by rw [hc]; simp)] at hv
    obtain ⟨hs64, hp400⟩ := hsm (by simpa using hc)
    have hro := room o.kind o.text.size o.parts.length (by omega) (by omega)
    have hr1 : roomN o.kind o.text.size o.parts.length ≤ 500 := by
      unfold roomN
      split <;> omega
    have hw4 : IntKind.i64.wrap (4000 - (roomN o.kind o.text.size o.parts.length : Int)) = 4000 - (roomN o.kind o.text.size o.parts.length : Int) := by rw [Go.Ab.wrap_small (by omega) (by omega)]
    generalize roomN o.kind o.text.size o.parts.length = rm at *

    (refine awp_reg_seq [0, 3, 15] fun K hK => ?_; (repeat' ((refine al_r rfl fun K' hK' => ?_); (repeat (simp only [go_sem, simprocAttr, List.length_map, hw4])); (first | ((first | refine hK' _ _ ?_ | refine ⟨?_, hK' _ _ ?_⟩) <;> clear hK' K' <;> (first | (show alist _ _ _ _ _ _; skip) | (intro s hs; cases hs; done) | (simp; done))) | ((show AC _ _ (D.fn 51 _) _ _); refine acall_p (f := 51) (e := rfl) (hr := rfl) (k := hK' _ _ ?_) (hc := Try.call51) (h := hro); clear hK' K')))); all_goals (refine al_nil ?_; (simp only [go_sem, simprocAttr, List.length_map, hw4]); refine hK _ ?_; clear hK K))
    refine awp_if (decide ((h.length : Int) > 4000 - (rm : Int))) rfl (fun hc => ?_) (fun hc => ?_)
    · (refine awp_reg_seq [4, 5, 6] fun K hK => ?_; (repeat' ((refine al_r rfl fun K' hK' => ?_); (repeat (simp only [go_sem, simprocAttr, List.length_map, hw4])); ((refine hK' _ _ ?_) <;> clear hK' K'))); all_goals (refine al_nil ?_; (simp only [go_sem, simprocAttr, List.length_map, hw4]); refine hK _ ?_; clear hK K))
      refine awp_ret ?_; (refine hR _ _ (.inl rfl) rfl ?_)
      rw [if_pos hc] at hv
      rw [hv]
      simp only [go_sem, simprocAttr, List.length_map, hw4, List.map_nil]
      rfl
    · rw [if_neg (by rw [hc]; simp)] at hv
      have hh4 : h.length ≤ 4000 := by simp at hc; omega
      have hcl := cloneH (h.map wrow) (wrow1 h) (by simp; omega)
      rw [List.length_map] at hcl
      have hth : List.take h.length (h.map wrow) = h.map wrow := List.take_of_length_le (by simp)
      have hfit : (h.length + 1) * 8 ≤ 140737488355328 := by omega

      refine awp_skip ?_
      refine hK _ ?_; clear hK K
      refine awp_draw_seq (by kernel_rfl) [0, 3, 7] fun K hK => ?_
      ((refine ah_r 0 rfl (by kernel_rfl) rfl fun K' hK' => ?_); (simp only [go_sem, simprocAttr, List.length_map, hth, hfit, List.drop_zero]); ((refine hK' _ ?_); clear hK' K'))
      ((refine ah_r 2 rfl (by kernel_rfl) rfl fun K' hK' => ?_); (simp only [go_sem, simprocAttr, List.length_map, hth, hfit, List.drop_zero]); ((refine hK' _ ?_); clear hK' K'))
      (refine ah_one 1 rfl (by kernel_rfl) ?_; (repeat' ((refine al_r rfl fun K' hK' => ?_); (repeat (simp only [go_sem, simprocAttr, List.length_map, hth, hfit, List.drop_zero])); ((show AC _ _ (D.fn 43 _) _ _); refine acall_new (f := 43) Try.call43 hcl rfl ?_; rintro r obs' ⟨rfl, rfl⟩; (simp only [go_sem, simprocAttr, List.length_map, hth, hfit, List.drop_zero]); refine hK' _ _ ?_; clear hK' K'))); all_goals refine al_nil ?_)
      (refine ah_one 3 rfl (by kernel_rfl) ?_; (repeat' ((refine al_r rfl fun K' hK' => ?_); (repeat (simp only [go_sem, simprocAttr, List.length_map, hth, hfit, List.drop_zero])); ((show AC _ _ (D.fn 53 _) _ _); refine acall_p (f := 53) (e := rfl) (hr := rfl) (k := hK' _ _ ?_) (hc := Try.call53) (h := hhe); clear hK' K'))); all_goals refine al_nil ?_)
      (refine ah_one 4 rfl (by kernel_rfl) ?_; (repeat' ((refine al_r rfl fun K' hK' => ?_); (repeat (simp only [go_sem, simprocAttr, List.length_map, hth, hfit, List.drop_zero])); ((refine hK' _ _ ?_) <;> clear hK' K'))); all_goals refine al_nil ?_)
      (refine ah_one 5 rfl (by kernel_rfl) ?_; (repeat' ((refine al_r rfl fun K' hK' => ?_); (repeat (first | (simp only [go_sem, simprocAttr, List.length_map, hth, hfit, List.drop_zero]) | refine AAp.grow ?_)); ((refine ⟨?_, ?_, hK' _ _ ?_⟩) <;> clear hK' K' <;> (first | (show alist _ _ _ _ _ _; skip) | (simp; done))))); all_goals refine al_nil ?_)
      ((refine ah_r 6 rfl (by kernel_rfl) rfl fun K' hK' => ?_); (simp only [go_sem, simprocAttr, List.length_map, hth, hfit, List.drop_zero]); ((refine hK' _ ?_); clear hK' K'))
      (refine ah_done (by kernel_rfl) ?_; (simp only [go_sem, simprocAttr, List.length_map, hth, hfit, List.drop_zero]); refine hK _ ?_; clear hK K)
      refine awp_seq_kc fun K hK hcut => ?_
      have key : ∀ W : List Int, W.length ≤ 4010 → R0 = (W ++ (textW o.text ++ o.parts), (h.length : Int), 0) → K ⟨ofL [(0, words h), (3, .rd [.lit (.int .i64 o.at_), .lit (.int .i64 o.kind), .lit (.int .i64 o.num), .lit (.string o.text), .sl (o.parts.map wrow)] 0), (7, .ref 0 0 W.length)], [.row 1 (W.map wrow)], 0⟩ := by
        clear hcut
        intro W hWl hRW
        clear hv hcl hel
        obtain ⟨M, hM⟩ : ∃ M, M = (o.text.size + 7) / 8 := ⟨_, rfl⟩
        have hM9 : M ≤ 8 := by omega
        refine hK _ ?_; clear hK K
        refine awp_seq_k fun K hK => ?_
        (refine awp_reg_seq [0, 3, 7, 8] fun K hK => ?_; (repeat' ((refine al_r rfl fun K' hK' => ?_); (repeat (simp only [go_sem, simprocAttr, List.length_map, hth, hfit, List.drop_zero])); ((refine hK' _ _ ?_) <;> clear hK' K'))); all_goals (refine al_nil ?_; (simp only [go_sem, simprocAttr, List.length_map, hth, hfit, List.drop_zero]); refine hK _ ?_; clear hK K))
        refine awp_block ?_
        -- loop 0 head [0, 3, 7, 8]
        refine awp_loop_cut (fun m s => ∃ (j : Nat) (V : List Int), j ≤ M ∧ m = M - j ∧ V.length = W.length + j ∧ V ++ textF o.text (M - j) (8 * j) = W ++ textW o.text ∧ s = ⟨ofL [(0, words h), (3, .rd [.lit (.int .i64 o.at_), .lit (.int .i64 o.kind), .lit (.int .i64 o.num), .lit (.string o.text), .sl (o.parts.map wrow)] 0), (7, .ref 0 0 V.length), (8, iD ((8 * j : Nat) : Int))], [.row 1 (V.map wrow)], 0⟩) ⟨_, 0, W, Nat.zero_le _, rfl, rfl, by rw [hM]; rfl, rfl⟩ ?_
        rintro m s ⟨j, V, hj, hmj, hVl, hVt, rfl⟩
        refine awp_seq_k fun K hK => ?_
        (refine awp_reg_seq [0, 3, 7, 8, 53] fun K hK => ?_; (repeat' ((refine al_r rfl fun K' hK' => ?_); (repeat (simp only [go_sem, simprocAttr, List.length_map, hth, hfit, List.drop_zero])); ((first | refine hK' _ _ ?_ | refine ⟨?_, hK' _ _ ?_⟩) <;> clear hK' K' <;> (first | (show alist _ _ _ _ _ _; skip) | (simp; done))))); all_goals (refine al_nil ?_; (simp only [go_sem, simprocAttr, List.length_map, hth, hfit, List.drop_zero]); refine hK _ ?_; clear hK K))
        refine awp_if (decide (((8 * j : Nat) : Int) < (o.text.size : Int))) rfl (fun hc => ?_) (fun hc => ?_)
        · refine awp_skip ?_
          refine hK _ ?_; clear hK K
          refine awp_seq_k fun K hK => ?_
          refine awp_block ?_
          have hj2 : j < M := by simp at hc; omega
          have htf : textF o.text (M - j) (8 * j) = wordAt o.text (8 * j) :: textF o.text (M - (j + 1)) (8 * (j + 1)) := by
            rw [show M - j = (M - (j + 1)) + 1 by omega]; rfl
          (refine awp_reg_seq [0, 3, 7, 8, 9] fun K hK => ?_; (repeat' ((refine al_r rfl fun K' hK' => ?_); (repeat (simp only [go_sem, simprocAttr, List.length_map, hth, hfit, List.drop_zero])); ((refine hK' _ _ ?_) <;> clear hK' K'))); all_goals (refine al_nil ?_; (simp only [go_sem, simprocAttr, List.length_map, hth, hfit, List.drop_zero]); refine hK _ ?_; clear hK K))
          refine awp_seq_k fun K hK => ?_
          (refine awp_reg_seq [0, 3, 7, 8, 9, 56] fun K hK => ?_; (repeat' ((refine al_r rfl fun K' hK' => ?_); (repeat (simp only [go_sem, simprocAttr, List.length_map, hth, hfit, List.drop_zero])); ((refine hK' _ _ ?_) <;> clear hK' K'))); all_goals (refine al_nil ?_; (simp only [go_sem, simprocAttr, List.length_map, hth, hfit, List.drop_zero]); refine hK _ ?_; clear hK K))
          refine awp_block ?_
          -- loop 1 head [0, 3, 7, 8, 9, 56]
          refine awp_loop (fun m s => ∃ (k : Nat) (w : Int), k ≤ 8 ∧ m = 8 - k ∧ orF o.text (8 * j) (8 - k) k w = wordAt o.text (8 * j) ∧ s = ⟨ofL [(0, words h), (3, .rd [.lit (.int .i64 o.at_), .lit (.int .i64 o.kind), .lit (.int .i64 o.num), .lit (.string o.text), .sl (o.parts.map wrow)] 0), (7, .ref 0 0 V.length), (8, iD ((8 * j : Nat) : Int)), (9, wD w), (56, iD k)], [.row 1 (V.map wrow)], 0⟩) ⟨_, 0, 0, by omega, rfl, rfl, rfl⟩ ?_
          rintro m s ⟨k, w, hk, rfl, hw, rfl⟩
          (refine awp_reg_seq [0, 3, 7, 8, 9, 56, 57] fun K hK => ?_; (repeat' ((refine al_r rfl fun K' hK' => ?_); (repeat (simp only [go_sem, simprocAttr, List.length_map, hth, hfit, List.drop_zero])); ((refine hK' _ _ ?_) <;> clear hK' K'))); all_goals (refine al_nil ?_; (simp only [go_sem, simprocAttr, List.length_map, hth, hfit, List.drop_zero]); refine hK _ ?_; clear hK K))
          refine awp_seq_k fun K hK => ?_
          refine awp_if (decide ((k : Int) < 8)) rfl (fun hc => ?_) (fun hc => ?_)
          · refine awp_skip ?_
            refine hK _ ?_; clear hK K
            refine awp_seq_k fun K hK => ?_
            refine awp_block ?_
            have hk2 : k < 8 := by simp at hc; omega
            have hnk : IntKind.i64.wrap ((k : Int) + 1) = ((k + 1 : Nat) : Int) := by rw [Go.Ab.wrap_small (by omega) (by omega)]; rfl
            have hwi : IntKind.i64.wrap (((8 * j : Nat) : Int) + (k : Int)) = ((8 * j + k : Nat) : Int) := by rw [Go.Ab.wrap_small (by omega) (by omega)]; rfl
            have hm8 : IntKind.i64.wrap (8 * (k : Int)) = ((8 * k : Nat) : Int) := by rw [Go.Ab.wrap_small (by omega) (by omega)]; omega
            have h80 : (0 : Int) ≤ ((8 * k : Nat) : Int) := Int.natCast_nonneg _
            have hi0 : (0 : Int) ≤ ((8 * j + k : Nat) : Int) := Int.natCast_nonneg _
            have horf : orF o.text (8 * j) (8 - k) k w = orF o.text (8 * j) (8 - (k + 1)) (k + 1) (orStep o.text (8 * j) k w) := by
              rw [show 8 - k = (8 - (k + 1)) + 1 by omega]; rfl
            rw [horf] at hw
            (refine awp_reg_seq [0, 3, 7, 8, 9, 10, 56] fun K hK => ?_; (repeat' ((refine al_r rfl fun K' hK' => ?_); (repeat (simp only [go_sem, simprocAttr, List.length_map, hth, hfit, List.drop_zero])); ((refine hK' _ _ ?_) <;> clear hK' K'))); all_goals (refine al_nil ?_; (simp only [go_sem, simprocAttr, List.length_map, hth, hfit, List.drop_zero]); refine hK _ ?_; clear hK K))

            (refine awp_reg_seq [0, 3, 7, 8, 9, 10, 56, 65] fun K hK => ?_; (repeat' ((refine al_r rfl fun K' hK' => ?_); (repeat (simp only [go_sem, simprocAttr, hwi, hnk, hm8, h80, hi0])); ((first | refine hK' _ _ ?_ | refine ⟨?_, hK' _ _ ?_⟩) <;> clear hK' K' <;> (first | (show alist _ _ _ _ _ _; skip) | (simp; done))))); all_goals (refine al_nil ?_; (simp only [go_sem, simprocAttr, hwi, hnk, hm8, h80, hi0]); refine hK _ ?_; clear hK K))
            refine awp_if (decide (((8 * j + k : Nat) : Int) < (o.text.size : Int))) rfl (fun hc => ?_) (fun hc => ?_)
            · obtain ⟨b, hb⟩ := get_byte (s := o.text) (i := 8 * j + k) (by simp at hc; omega)
              have hos : orStep o.text (8 * j) k w = bits .or .u64 w (IntKind.u64.wrap (IntKind.u64.wrap (b.toNat : Int) * 2 ^ min (8 * k) 64)) := by unfold orStep; rw [hb]
              rw [hos] at hw

              (refine awp_reg_end [0, 3, 7, 8, 9, 56] fun K hK => ?_; (repeat' ((refine al_r rfl fun K' hK' => ?_); (repeat (simp only [go_sem, simprocAttr, hwi, hnk, hm8, h80, hi0, hb, Int.toNat_natCast])); ((refine hK' _ _ ?_) <;> clear hK' K'))); all_goals (refine al_nil ?_; (simp only [go_sem, simprocAttr, hwi, hnk, hm8, h80, hi0, hb, Int.toNat_natCast]); refine hK _ ?_; clear hK K))
              refine hK _ ?_; clear hK K
              (refine awp_reg_end [0, 3, 7, 8, 9, 56] fun K hK => ?_; (repeat' ((refine al_r rfl fun K' hK' => ?_); (repeat (simp only [go_sem, simprocAttr, hwi, hnk, hm8, h80, hi0, hb, Int.toNat_natCast])); ((refine hK' _ _ ?_) <;> clear hK' K'))); all_goals (refine al_nil ?_; (simp only [go_sem, simprocAttr, hwi, hnk, hm8, h80, hi0, hb, Int.toNat_natCast]); refine hK _ ?_; clear hK K))
              refine ⟨_, ?_, k + 1, _, hk2, rfl, hw, rfl⟩
              omega
            · have hno : o.text[8 * j + k]? = none := getElem?_neg o.text (8 * j + k) (by simp at hc; omega)

              have hos : orStep o.text (8 * j) k w = w := by unfold orStep; rw [hno]
              rw [hos] at hw
              refine awp_skip ?_
              refine hK _ ?_; clear hK K
              (refine awp_reg_end [0, 3, 7, 8, 9, 56] fun K hK => ?_; (repeat' ((refine al_r rfl fun K' hK' => ?_); (repeat (simp only [go_sem, simprocAttr, hwi, hnk, hm8, h80, hi0])); ((refine hK' _ _ ?_) <;> clear hK' K'))); all_goals (refine al_nil ?_; (simp only [go_sem, simprocAttr, hwi, hnk, hm8, h80, hi0]); refine hK _ ?_; clear hK K))
              refine ⟨_, ?_, k + 1, _, hk2, rfl, hw, rfl⟩
              omega
          · have hk8 : k = 8 := by simp at hc; omega
            subst hk8
            have hw8 : w = wordAt o.text (8 * j) := hw
            have htV : List.take V.length (V.map wrow) = V.map wrow := List.take_of_length_le (by simp)
            have hfV : (V.length + 1) * 8 ≤ 140737488355328 := by omega
            have hn8 : IntKind.i64.wrap (((8 * j : Nat) : Int) + 8) = ((8 * (j + 1) : Nat) : Int) := by rw [Go.Ab.wrap_small (by omega) (by omega)]; omega

            refine awp_exit ?_
            clear hK
            refine hK _ ?_; clear hK K
            (refine awp_reg_end [0, 3, 7, 8] fun K hK => ?_; (repeat' ((refine al_r rfl fun K' hK' => ?_); (repeat (first | (simp only [go_sem, simprocAttr, List.length_map, htV, hfV, hn8, List.drop_zero]) | refine AAp.grow ?_)); ((first | refine hK' _ _ ?_ | refine ⟨?_, ?_, hK' _ _ ?_⟩) <;> clear hK' K' <;> (first | (show alist _ _ _ _ _ _; skip) | (simp; done))))); all_goals (refine al_nil ?_; (simp only [go_sem, simprocAttr, List.length_map, htV, hfV, hn8, List.drop_zero]); refine hK _ ?_; clear hK K))
            refine hK _ ?_; clear hK K
            (refine awp_reg_end [0, 3, 7, 8] fun K hK => ?_; (repeat' ((refine al_r rfl fun K' hK' => ?_); (repeat (simp only [go_sem, simprocAttr, List.length_map, htV, hfV, hn8, List.drop_zero])); ((refine hK' _ _ ?_) <;> clear hK' K'))); all_goals (refine al_nil ?_; (simp only [go_sem, simprocAttr, List.length_map, htV, hfV, hn8, List.drop_zero]); refine hK _ ?_; clear hK K))
            refine ⟨M - (j + 1), by omega, [0, 3, 7, 8], [2], by decide, by intro q hq; exact absurd hq (Nat.not_lt_zero q), j + 1, V ++ [w], by omega, rfl, by simp; omega, ?_, ?_⟩
            · rw [← hVt, htf, hw8]; simp
            · simp only [go_sem, simprocAttr, List.length_map, htV, hfV, hn8, List.drop_zero]

        · have hjM : j = M := by simp at hc; omega
          subst hjM
          have hV2 : V = W ++ textW o.text := by rw [← hVt, Nat.sub_self]; simp [textF]
          have htV : List.take V.length (V.map wrow) = V.map wrow := List.take_of_length_le (by simp)
          have htP : List.take o.parts.length (o.parts.map wrow) = o.parts.map wrow := List.take_of_length_le (by simp)
          have hfV : (V.length + o.parts.length) * 8 ≤ 140737488355328 := by omega
          have htA : List.take (V.length + o.parts.length) (V.map wrow ++ o.parts.map wrow) = (V ++ o.parts).map wrow := by
            rw [List.take_of_length_le (by simp), List.map_append]

          refine awp_exit ?_
          clear hK
          refine hK _ ?_; clear hK K
          (refine awp_reg_seq [4, 5, 6] fun K hK => ?_; (repeat' ((refine al_r rfl fun K' hK' => ?_); (repeat (first | (simp only [go_sem, simprocAttr, List.length_map, htV, htP, hfV, htA, List.drop_zero]) | refine AAp.grow ?_)); ((first | refine hK' _ _ ?_ | refine ⟨?_, hK' _ _ ?_⟩ | refine ⟨?_, ?_, hK' _ _ ?_⟩) <;> clear hK' K' <;> (first | (show alist _ _ _ _ _ _; skip) | (intro s hs; cases hs; done) | (simp; done))))); all_goals (refine al_nil ?_; (simp only [go_sem, simprocAttr, List.length_map, htV, htP, hfV, htA, List.drop_zero]); refine hK _ ?_; clear hK K))
          refine awp_ret ?_; (refine hR _ _ (.inl rfl) rfl ?_)
          rw [hRW, ← List.append_assoc, ← hV2]
          simp only [go_sem, simprocAttr, List.length_map, htV, htP, hfV, htA, List.drop_zero, words]

      (refine awp_reg_tov [0, 3, 7, 42] [(42, bD (o.kind == 1 || o.kind == 4))] (h := ?_) (k := ?_); · ((repeat' (first | ((first | refine al_r rfl fun K' hK' => ?_ | refine al_t rfl rfl fun K' hK' => ?_); (repeat (simp only [go_sem, simprocAttr, List.length_map, List.drop_zero])); ((refine hK' _ _ ?_) <;> clear hK' K')) | refine al_e rfl rfl ?_ | ((fail_if_success (refine al_t rfl rfl fun K' hK' => ?_)); refine al_s _ rfl rfl rfl (fun hb => ?_) (fun hb => ?_)))); all_goals (refine al_nil ?_; simp only [go_sem, simprocAttr, List.length_map, List.drop_zero, *, Bool.and_true, Bool.and_false, Bool.true_and, Bool.false_and, Bool.or_true, Bool.true_or, Bool.or_false, Bool.false_or, Bool.not_true, Bool.not_false, Bool.false_eq_true]))); intro K hK; (simp only [go_sem, simprocAttr, List.length_map, List.drop_zero]); refine hK _ ?_; clear hK K
      refine awp_if (numK o.kind) rfl (fun hc => ?_) (fun hc => ?_)
      · have hRa : R0 = ((h ++ [headS o] ++ [IntKind.u64.wrap o.num]) ++ (textW o.text ++ o.parts), (h.length : Int), 0) := by rw [hv]; simp [encW, numW, hc]
        have htB : List.take (h.length + 1) (h.map wrow ++ [[.lit (.int .u64 (headS o))]]) = h.map wrow ++ [[.lit (.int .u64 (headS o))]] := List.take_of_length_le (by simp)
        have hfB : (h.length + 1 + 1) * 8 ≤ 140737488355328 := by omega

        (refine awp_reg_end [0, 3, 7] fun K hK => ?_; (repeat' ((refine al_r rfl fun K' hK' => ?_); (repeat (first | (simp only [go_sem, simprocAttr, List.length_map, htB, hfB, List.drop_zero]) | refine AAp.grow ?_)); ((first | refine hK' _ _ ?_ | refine ⟨?_, ?_, hK' _ _ ?_⟩) <;> clear hK' K' <;> (first | (show alist _ _ _ _ _ _; skip) | (simp; done))))); all_goals (refine al_nil ?_; (simp only [go_sem, simprocAttr, List.length_map, htB, hfB, List.drop_zero]); refine hK _ ?_; clear hK K))
        (first
          | (refine hcut _ [0, 3, 7] [4] (by decide) (by intro q hq; exact absurd hq (Nat.not_lt_zero q)) ?_; have hk := key (h ++ [headS o] ++ [IntKind.u64.wrap o.num]) (by simp; omega) hRa; simp only [List.length_append, List.length_cons, List.length_nil, List.map_append, List.map_cons, List.map_nil, Nat.zero_add] at hk; simp only [go_sem, simprocAttr, List.length_map, htB, hfB, List.drop_zero]; exact hk)
          | (refine hcut _ [0, 3, 7] [2] (by decide) (by intro q hq; exact absurd hq (Nat.not_lt_zero q)) ?_; have hk := key (h ++ [headS o]) (by simp; omega) hRb; simp only [List.length_append, List.length_cons, List.length_nil, List.map_append, List.map_cons, List.map_nil, Nat.zero_add] at hk; simp only [go_sem, simprocAttr, List.length_map, htB, hfB, List.drop_zero]; exact hk))
      · have hRb : R0 = ((h ++ [headS o]) ++ (textW o.text ++ o.parts), (h.length : Int), 0) := by rw [hv]; simp [encW, numW, hc]

        refine awp_skip ?_
        (first
          | (refine hcut _ [0, 3, 7] [4] (by decide) (by intro q hq; exact absurd hq (Nat.not_lt_zero q)) ?_; have hk := key (h ++ [headS o] ++ [IntKind.u64.wrap o.num]) (by simp; omega) hRa; simp only [List.length_append, List.length_cons, List.length_nil, List.map_append, List.map_cons, List.map_nil, Nat.zero_add] at hk; simp only [go_sem, simprocAttr, List.length_map, List.drop_zero]; exact hk)
          | (refine hcut _ [0, 3, 7] [2] (by decide) (by intro q hq; exact absurd hq (Nat.not_lt_zero q)) ?_; have hk := key (h ++ [headS o]) (by simp; omega) hRb; simp only [List.length_append, List.length_cons, List.length_nil, List.map_append, List.map_cons, List.map_nil, Nat.zero_add] at hk; simp only [go_sem, simprocAttr, List.length_map, List.drop_zero]; exact hk))
end Go.Proofs.Ytagphggcdmjlpaa.P

/- A row that is handed out shorter than it lies there. No program is named here. -/
namespace Go.Ab

/-- A clone of nothing is an empty row. -/
theorem ACalls.born {P : Program} {f : FuncId} {args : List D} {s : Nat} {xs : List (List PV)}
    (h : ACalls P f args [] (fun r obs' => (r = .ref 0 0 xs.length ∧ obs' = [.row s xs]) ∨ (xs = [] ∧ r = .nil ∧ obs' = []))) :
    ACalls P f args [] (fun r obs' => r = .ref 0 0 xs.length ∧ obs' = [.row s xs]) := by
  intro H loc w vs h1 h2 h3
  refine (h H loc w vs h1 h2 h3).mono fun e w' ⟨v, H', loc', r, obs', hq, he, hv, hsr, hg, hown, hst⟩ => ?_
  rcases hq with ⟨hr, ho⟩ | ⟨hx, hr, ho⟩
  · exact ⟨v, H', loc', r, obs', ⟨hr, ho⟩, he, hv, hsr, hg, hown, hst⟩
  · subst hr ho hx
    refine ⟨v, H', fun _ => ⟨0, 0, 0, false⟩, .ref 0 0 0, [.row s []], ⟨rfl, rfl⟩, he, ?_, ⟨hsr.heap, ?_, ?_, ?_⟩, hg, ?_, ?_⟩
    · cases hv
      exact .ref0 _ 0 0 s [] rfl rfl
    · intro i o ho
      match i, ho with
      | 0, ho => cases ho; exact .inl ⟨rfl, rfl⟩
      | i + 1, ho => simp at ho
    · intro i o ho hl hr; cases hr
    · intro i j o o' hi hj hli hlj hr; cases hr
    · intro i o ho hl hr; cases hr
    · intro k o ho; simp at ho
end Go.Ab

/- The object at a place of a heap: a contract. -/
namespace Go.Proofs.Ytagphggcdmjlpaa.P
open Go.Ab Go.Proofs.Ytagphggcdmjlpaa.T

def eqI (x y : Int) : Bool := x == y
theorem eqI_iff (x y : Int) : eqI x y = true ↔ x = y := by simp [eqI]

theorem equalW (a b : List Int) (ha : a.length ≤ maxLen) : ACallP Try.prog 18 [words a, words b] (bD (listEq eqI a b)) := by
  refine acallp_fn [4] Try.func18 rfl rfl Try.ntmps18 (by simp) fun R hR => ?_
  (refine awp_reg_seq [0, 1] fun K hK => ?_; (repeat' ((refine al_r rfl fun K' hK' => ?_); (repeat (simp only [go_sem, simprocAttr, List.length_map])); ((refine hK' _ _ ?_) <;> clear hK' K'))); all_goals (refine al_nil ?_; (simp only [go_sem, simprocAttr, List.length_map]); refine hK _ ?_; clear hK K))
  refine awp_seq_k fun K hK => ?_
  (refine awp_reg_seq [0, 1, 10] fun K hK => ?_; (repeat' ((refine al_r rfl fun K' hK' => ?_); (repeat (simp only [go_sem, simprocAttr, List.length_map])); ((first | refine hK' _ _ ?_ | refine ⟨?_, hK' _ _ ?_⟩) <;> clear hK' K' <;> (first | (show alist _ _ _ _ _ _; skip) | (intro s hs; cases hs; done))))); all_goals (refine al_nil ?_; (simp only [go_sem, simprocAttr, List.length_map]); refine hK _ ?_; clear hK K))
  refine awp_if (_) rfl (fun hc => ?_) (fun hc => ?_)
  · have hl : a.length ≠ b.length := by
      intro e; rw [e] at hc; simp at hc
    rw [listEq_len hl] at hR
    (refine awp_reg_seq [4] fun K hK => ?_; (repeat' ((refine al_r rfl fun K' hK' => ?_); (repeat (simp only [go_sem, simprocAttr, List.length_map])); ((refine hK' _ _ ?_) <;> clear hK' K'))); all_goals (refine al_nil ?_; (simp only [go_sem, simprocAttr, List.length_map]); refine hK _ ?_; clear hK K))
    refine awp_ret ?_; (refine hR _ _ (.inl rfl) rfl ?_)
    simp only [go_sem, simprocAttr, List.length_map]
  · have hl : a.length = b.length := by
      have : ((a.length : Int) != b.length) = false := hc
      simp at this; omega
    refine awp_skip ?_
    refine hK _ ?_; clear hK K
    refine awp_seq_k fun K hK => ?_
    (refine awp_reg_seq [0, 1, 12, 13] fun K hK => ?_; (repeat' ((refine al_r rfl fun K' hK' => ?_); (repeat (simp only [go_sem, simprocAttr, List.length_map])); ((first | refine hK' _ _ ?_ | refine ⟨?_, hK' _ _ ?_⟩) <;> clear hK' K' <;> (first | (show alist _ _ _ _ _ _; skip) | (intro s hs; cases hs; done))))); all_goals (refine al_nil ?_; (simp only [go_sem, simprocAttr, List.length_map]); refine hK _ ?_; clear hK K))
    refine awp_block ?_
    refine awp_loop (fun m s => ∃ i : Nat, i ≤ a.length ∧ m = a.length - i ∧ (∀ (j : Nat) x y, j < i → a[j]? = some x → b[j]? = some y → eqI x y = true) ∧ s = ⟨ofL [(0, words a), (1, words b), (12, iD a.length), (13, iD i)], [], 0⟩) ⟨_, 0, Nat.zero_le _, rfl, fun j _ _ hj => absurd hj (by omega), rfl⟩ ?_
    rintro m s ⟨i, hi, rfl, hbefore, rfl⟩
    (refine awp_reg_seq [0, 1, 12, 13, 14] fun K hK => ?_; (repeat' ((refine al_r rfl fun K' hK' => ?_); (repeat (simp only [go_sem, simprocAttr, List.length_map])); ((refine hK' _ _ ?_) <;> clear hK' K'))); all_goals (refine al_nil ?_; (simp only [go_sem, simprocAttr, List.length_map]); refine hK _ ?_; clear hK K))
    refine awp_seq_k fun K hK => ?_
    refine awp_if (decide ((i : Int) < a.length)) rfl (fun hc => ?_) (fun hc => ?_)
    · refine awp_skip ?_
      refine hK _ ?_; clear hK K
      have hi2 : i < a.length := by simpa using hc
      obtain ⟨x, hx⟩ := get_of_lt hi2
      obtain ⟨y, hy⟩ := get_of_lt (l := b) (i := i) (by omega)
      have hnn : (0 : Int) ≤ (i : Int) := Int.natCast_nonneg i

      refine awp_seq_k fun K hK => ?_
      refine awp_block ?_
      (refine awp_reg_seq [0, 1, 5, 12, 13] fun K hK => ?_; (repeat' ((refine al_r rfl fun K' hK' => ?_); (repeat (simp only [go_sem, simprocAttr, hx, hy, hnn, List.length_map, List.getElem?_map, Int.toNat_natCast, Option.map_some, List.length_map])); ((refine hK' _ _ ?_) <;> clear hK' K'))); all_goals (refine al_nil ?_; (simp only [go_sem, simprocAttr, hx, hy, hnn, List.length_map, List.getElem?_map, Int.toNat_natCast, Option.map_some, List.length_map]); refine hK _ ?_; clear hK K))
      refine awp_draw_seq (by kernel_rfl) [0, 1, 12, 13, 24] fun K hK => ?_
      ((refine ah_r 0 rfl (by kernel_rfl) rfl fun K' hK' => ?_); (simp only [go_sem, simprocAttr, hx, hy, hnn, List.length_map, List.getElem?_map, Int.toNat_natCast, Option.map_some, List.length_map]); ((refine hK' _ ?_); clear hK' K'))
      ((refine ah_r 1 rfl (by kernel_rfl) rfl fun K' hK' => ?_); (simp only [go_sem, simprocAttr, hx, hy, hnn, List.length_map, List.getElem?_map, Int.toNat_natCast, Option.map_some, List.length_map]); ((refine hK' _ ?_); clear hK' K'))
      ((refine ah_r 2 rfl (by kernel_rfl) rfl fun K' hK' => ?_); (simp only [go_sem, simprocAttr, hx, hy, hnn, List.length_map, List.getElem?_map, Int.toNat_natCast, Option.map_some, List.length_map]); ((refine hK' _ ?_); clear hK' K'))
      ((refine ah_r 3 rfl (by kernel_rfl) rfl fun K' hK' => ?_); (simp only [go_sem, simprocAttr, hx, hy, hnn, List.length_map, List.getElem?_map, Int.toNat_natCast, Option.map_some, List.length_map]); ((refine hK' _ ?_); clear hK' K'))
      ((refine ah_r 4 rfl (by kernel_rfl) rfl fun K' hK' => ?_); (simp only [go_sem, simprocAttr, hx, hy, hnn, List.length_map, List.getElem?_map, Int.toNat_natCast, Option.map_some, List.length_map]); ((refine hK' _ ?_); clear hK' K'))
      ((refine ah_r 5 rfl (by kernel_rfl) rfl fun K' hK' => ?_); (simp only [go_sem, simprocAttr, hx, hy, hnn, List.length_map, List.getElem?_map, Int.toNat_natCast, Option.map_some, List.length_map]); ((refine hK' _ ?_); clear hK' K'))
      ((refine ah_r 6 rfl (by kernel_rfl) rfl fun K' hK' => ?_); (simp only [go_sem, simprocAttr, hx, hy, hnn, List.length_map, List.getElem?_map, Int.toNat_natCast, Option.map_some, List.length_map]); ((refine hK' _ ?_); clear hK' K'))
      ((refine ah_r 7 rfl (by kernel_rfl) rfl fun K' hK' => ?_); (simp only [go_sem, simprocAttr, hx, hy, hnn, List.length_map, List.getElem?_map, Int.toNat_natCast, Option.map_some, List.length_map]); ((refine hK' _ ?_); clear hK' K'))
      ((refine ah_r 8 rfl (by kernel_rfl) rfl fun K' hK' => ?_); (simp only [go_sem, simprocAttr, hx, hy, hnn, List.length_map, List.getElem?_map, Int.toNat_natCast, Option.map_some, List.length_map]); ((refine hK' _ ?_); clear hK' K'))
      (refine ah_done (by kernel_rfl) ?_; (simp only [go_sem, simprocAttr, hx, hy, hnn, List.length_map, List.getElem?_map, Int.toNat_natCast, Option.map_some, List.length_map]); refine hK _ ?_; clear hK K)
      refine awp_if (!(eqI x y)) rfl (fun hc => ?_) (fun hc => ?_)
      · have he : eqI x y = false := by simpa using hc
        rw [listEq_not hx hy he] at hR
        (refine awp_reg_seq [4] fun K hK => ?_; (repeat' ((refine al_r rfl fun K' hK' => ?_); (repeat (simp only [go_sem, simprocAttr, hx, hy, hnn, List.length_map, List.getElem?_map, Int.toNat_natCast, Option.map_some, List.length_map])); ((refine hK' _ _ ?_) <;> clear hK' K'))); all_goals (refine al_nil ?_; (simp only [go_sem, simprocAttr, hx, hy, hnn, List.length_map, List.getElem?_map, Int.toNat_natCast, Option.map_some, List.length_map]); refine hK _ ?_; clear hK K))
        refine awp_ret ?_; (refine hR _ _ (.inl rfl) rfl ?_)
        simp only [go_sem, simprocAttr, hx, hy, hnn, List.length_map, List.getElem?_map, Int.toNat_natCast, Option.map_some, List.length_map]
      · have he : eqI x y = true := by simpa using hc
        refine awp_skip ?_
        refine hK _ ?_; clear hK K
        (refine awp_reg_end [0, 1, 12, 13] fun K hK => ?_; (repeat' ((refine al_r rfl fun K' hK' => ?_); (repeat (simp only [go_sem, simprocAttr, hx, hy, hnn, List.length_map, List.getElem?_map, Int.toNat_natCast, Option.map_some, List.length_map])); ((refine hK' _ _ ?_) <;> clear hK' K'))); all_goals (refine al_nil ?_; (simp only [go_sem, simprocAttr, hx, hy, hnn, List.length_map, List.getElem?_map, Int.toNat_natCast, Option.map_some, List.length_map]); refine hK _ ?_; clear hK K))
        refine ⟨_, ?_, i + 1, hi2, rfl, ?_, ?_⟩
        · omega
        · intro j u v hj hu hv
          by_cases e : j = i
          · subst e; rw [hx] at hu; rw [hy] at hv; cases hu; cases hv; exact he
          · exact hbefore j u v (by omega) hu hv
        · rw [wrap_next hi2 ha]

    · refine awp_exit ?_
      clear hK
      refine hK _ ?_; clear hK K
      have hi2 : i = a.length := by simp at hc; omega
      have hfin : listEq eqI a b = true := listEq_of hl fun j x y hx hy => hbefore j x y (by have := lt_of_get hx; omega) hx hy
      rw [hfin] at hR
      (refine awp_reg_seq [4] fun K hK => ?_; (repeat' ((refine al_r rfl fun K' hK' => ?_); (repeat (simp only [go_sem, simprocAttr, List.length_map])); ((refine hK' _ _ ?_) <;> clear hK' K'))); all_goals (refine al_nil ?_; (simp only [go_sem, simprocAttr, List.length_map]); refine hK _ ?_; clear hK K))
      refine awp_ret ?_; (refine hR _ _ (.inl rfl) rfl ?_)
      simp only [go_sem, simprocAttr, List.length_map]



def kN (w : Int) : Int := IntKind.i64.wrap (bits .and .u64 w 255)
def tN (w : Int) : Int := IntKind.i64.wrap (bits .and .u64 (w.fdiv (2 ^ min 8 64)) 4095)
def pN (w : Int) : Int := IntKind.i64.wrap (bits .and .u64 (w.fdiv (2 ^ min 20 64)) 4095)

theorem and_small {x : Int} (h0 : 0 ≤ x) (h1 : x < 18446744073709551616) (m : Nat) (hm : m ≤ 4095) : ∃ t : Nat, IntKind.i64.wrap (bits .and .u64 x (m : Int)) = (t : Int) ∧ t ≤ m := by
  obtain ⟨n, rfl⟩ := Int.eq_ofNat_of_zero_le h0
  have hb := bits_and_u64_nat n m (by omega) (by omega)
  have hl : n &&& m ≤ m := Nat.and_le_right
  refine ⟨n &&& m, ?_, hl⟩
  show IntKind.i64.wrap (bits .and .u64 (n : Int) (m : Int)) = _
  rw [hb, Go.Ab.wrap_small (by omega) (by omega)]

theorem shr_range {w : Int} (h0 : 0 ≤ w) (h1 : w < 18446744073709551616) (k : Nat) : 0 ≤ w.fdiv (2 ^ k) ∧ w.fdiv (2 ^ k) < 18446744073709551616 := by
  have hp : (0 : Int) < 2 ^ k := Int.pow_pos (by decide)
  rw [Int.fdiv_eq_ediv_of_nonneg _ (by omega)]
  refine ⟨Int.ediv_nonneg h0 (by omega), Int.lt_of_le_of_lt (Int.ediv_le_self _ h0) h1⟩

abbrev WordOk (w : Int) : Prop := 0 ≤ w ∧ w < 18446744073709551616

theorem tN_ok {w : Int} (h : WordOk w) : ∃ t : Nat, tN w = t ∧ t ≤ 4095 := and_small (shr_range h.1 h.2 _).1 (shr_range h.1 h.2 _).2 4095 (by omega)
theorem pN_ok {w : Int} (h : WordOk w) : ∃ t : Nat, pN w = t ∧ t ≤ 4095 := and_small (shr_range h.1 h.2 _).1 (shr_range h.1 h.2 _).2 4095 (by omega)

/-- A byte of a text in words. -/
def byteN (h : List Int) (a i : Nat) : Int := IntKind.u8.wrap ((h.getD (a + i / 8) 0).fdiv (2 ^ min (8 * (i % 8)) 64))
def bytesN (h : List Int) (a n : Nat) : List Int := (List.range n).map (byteN h a)

abbrev z0 : Obj := ⟨0, 0, 0, ByteArray.empty, []⟩
def objO (h : List Int) (a : Nat) (k num : Int) (t p a1 : Nat) : Obj := ⟨a, k, num, pushB (bytesN h a1 t), (h.drop (a1 + (t + 7) / 8)).take p⟩
def atO (h : List Int) (a : Nat) (o : Obj) (n : Nat) : Obj × Int :=
  if ((putS [] o).2.2 != 0) || !(listEq eqI (putS [] o).1 ((h.drop a).take n)) then (z0, 3) else (o, 0)
def atR (h : List Int) (a : Nat) (k : Int) (t p : Nat) : Obj × Int :=
  if numK k then atO h a (objO h a k (IntKind.i64.wrap (h.getD (a + 1) 0)) t p (a + 2)) (a + 2 + (t + 7) / 8 + p - a)
  else atO h a (objO h a k 0 t p (a + 1)) (a + 1 + (t + 7) / 8 + p - a)
/-- What At answers. -/
def atS (h : List Int) (a : Int) : Obj × Int :=
  if decide (a < 0) || decide (a ≥ h.length) then (z0, 4) else
  match h[a.toNat]? with
  | none => (z0, 0)
  | some w => if (w.fdiv (2 ^ min 32 64) != 0) || decide ((roomN (kN w) (tN w).toNat (pN w).toNat : Int) > h.length - a) then (z0, 3) else atR h a.toNat (kN w) (tN w).toNat (pN w).toNat

theorem bytesN_succ (h : List Int) (a i : Nat) : bytesN h a (i + 1) = bytesN h a i ++ [byteN h a i] := by
  unfold bytesN; rw [List.range_succ, List.map_append]; rfl
end Go.Proofs.Ytagphggcdmjlpaa.P

/- The object at a place of a heap: the walk. -/
namespace Go.Proofs.Ytagphggcdmjlpaa.P
open Go.Ab Go.Proofs.Ytagphggcdmjlpaa.T

abbrev brow (b : Int) : List PV := [.lit (.int .u8 b)]

theorem cut_len (h : List Int) {a n : Nat} (ha : a + n ≤ h.length) : ((h.drop a).take n).length = n := by rw [List.length_take, List.length_drop]; omega

theorem put_len (h : List Int) (o : Obj) (hl : h.length ≤ 4000) : (putS h o).1.length ≤ h.length + 4001 := by
  unfold putS
  split
  · simp
  · split
    · simp
    · rename_i h1 h2
      simp only [List.length_append, enc_len]
      simp at h2
      omega


theorem at_ (h : List Int) (a : Int) (hlen : h.length ≤ maxLen) (hok : ∀ w, w ∈ h → WordOk w) : ACallP Try.prog 19 [words h, iD a] (.tup [objD (atS h a).1, iD (atS h a).2]) := by
  obtain ⟨R0, hR0⟩ : ∃ R0, R0 = atS h a := ⟨_, rfl⟩
  have hv : R0 = if decide (a < 0) || decide (a ≥ h.length) then (z0, 4) else
    match h[a.toNat]? with
    | none => (z0, 0)
    | some w => if (w.fdiv (2 ^ min 32 64) != 0) || decide ((roomN (kN w) (tN w).toNat (pN w).toNat : Int) > h.length - a) then (z0, 3) else atR h a.toNat (kN w) (tN w).toNat (pN w).toNat := hR0
  rw [← hR0]
  clear hR0
  refine acallp_fnv [.cell 4 30, .tmp 5] Try.func19 rfl rfl Try.ntmps19 (by simp) fun R hR => ?_
  (refine awp_reg_seq [0, 1, 4] fun K hK => ?_; (repeat' ((refine al_r rfl fun K' hK' => ?_); (repeat (simp only [go_sem, simprocAttr, List.length_map])); ((refine hK' _ _ ?_) <;> clear hK' K'))); all_goals (refine al_nil ?_; (simp only [go_sem, simprocAttr, List.length_map]); refine hK _ ?_; clear hK K))
  refine awp_seq_k fun K hK => ?_
  (refine awp_reg_tov [0, 1, 4, 23] [(23, bD (decide (a < 0) || decide (a ≥ (h.length : Int))))] (h := ?_) (k := ?_); · ((repeat' (first | ((first | refine al_r rfl fun K' hK' => ?_ | refine al_t rfl rfl fun K' hK' => ?_); (repeat (simp only [go_sem, simprocAttr, List.length_map])); ((first | refine hK' _ _ ?_ | refine ⟨?_, hK' _ _ ?_⟩) <;> clear hK' K' <;> (first | (show alist _ _ _ _ _ _; skip) | (intro s hs; cases hs; done)))) | refine al_e rfl rfl ?_ | ((fail_if_success (refine al_t rfl rfl fun K' hK' => ?_)); refine al_s _ rfl rfl rfl (fun hb => ?_) (fun hb => ?_)))); all_goals (refine al_nil ?_; simp only [go_sem, simprocAttr, List.length_map, *, Bool.and_true, Bool.and_false, Bool.true_and, Bool.false_and, Bool.or_true, Bool.true_or, Bool.or_false, Bool.false_or, Bool.not_true, Bool.not_false, Bool.false_eq_true]))); intro K hK; (simp only [go_sem, simprocAttr, List.length_map]); refine hK _ ?_; clear hK K
  refine awp_if (_) rfl (fun hc => ?_) (fun hc => ?_)
  · (refine awp_reg_seq [4, 5] fun K hK => ?_; (repeat' ((first | refine al_r rfl fun K' hK' => ?_ | refine al_d rfl fun K' hK' => ?_); (repeat (first | (simp only [go_sem, simprocAttr, List.length_map]) | refine AS.mk ?_)); ((first | refine hK' _ _ ?_ | refine ⟨?_, hK' _ _ ?_⟩) <;> clear hK' K' <;> (first | (show alist _ _ _ _ _ _; skip) | (simp; done))))); all_goals (refine al_nil ?_; (simp only [go_sem, simprocAttr, List.length_map]); refine hK _ ?_; clear hK K))
    refine awp_ret ?_; refine hR _ _ (.inl rfl) rfl ?_
    rw [if_pos hc] at hv
    rw [hv]
    simp only [go_sem, simprocAttr, List.length_map, List.map_nil]
    rfl
  · rw [if_neg (by rw [hc]; simp)] at hv
    have hc0 := hc
    simp only [Bool.or_eq_false_iff, decide_eq_false_iff_not] at hc0
    obtain ⟨n, rfl⟩ := Int.eq_ofNat_of_zero_le (show 0 ≤ a by omega)
    have hnl : n < h.length := by omega
    obtain ⟨w, hw⟩ := get_of_lt hnl
    rw [Int.toNat_natCast, hw] at hv
    simp only at hv
    have hn0 : (0 : Int) ≤ (n : Int) := Int.natCast_nonneg n
    have hwok := hok w (List.mem_of_getElem? hw)
    obtain ⟨t, ht, ht4⟩ := tN_ok hwok
    obtain ⟨p, hp, hp4⟩ := pN_ok hwok
    have hkN : IntKind.i64.wrap (bits .and .u64 w 255) = kN w := rfl
    have htN : IntKind.i64.wrap (bits .and .u64 (w.fdiv (2 ^ min 8 64)) 4095) = (t : Int) := ht
    have hpN : IntKind.i64.wrap (bits .and .u64 (w.fdiv (2 ^ min 20 64)) 4095) = (p : Int) := hp
    rw [ht, hp, Int.toNat_natCast, Int.toNat_natCast] at hv
    generalize kN w = k at *
    have hro := room k t p (by omega) (by omega)
    have hwr : IntKind.i64.wrap ((h.length : Int) - (n : Int)) = (h.length : Int) - (n : Int) := by
      simp [maxLen] at hlen
      rw [Go.Ab.wrap_small (by omega) (by omega)]

    refine awp_skip ?_
    refine hK _ ?_; clear hK K
    (refine awp_reg_seq [0, 1, 4, 6] fun K hK => ?_; (repeat' ((refine al_r rfl fun K' hK' => ?_); (repeat (simp only [go_sem, simprocAttr, List.length_map, hw, hnl, hn0, hkN, htN, hpN, hwr, Int.toNat_natCast, List.getElem?_map, Option.map_some])); ((refine hK' _ _ ?_) <;> clear hK' K'))); all_goals (refine al_nil ?_; (simp only [go_sem, simprocAttr, List.length_map, hw, hnl, hn0, hkN, htN, hpN, hwr, Int.toNat_natCast, List.getElem?_map, Option.map_some]); refine hK _ ?_; clear hK K))
    (refine awp_reg_seq [0, 1, 4, 6, 7, 8, 9] fun K hK => ?_; (repeat' ((refine al_r rfl fun K' hK' => ?_); (repeat (simp only [go_sem, simprocAttr, List.length_map, hw, hnl, hn0, hkN, htN, hpN, hwr, Int.toNat_natCast, List.getElem?_map, Option.map_some])); ((refine hK' _ _ ?_) <;> clear hK' K'))); all_goals (refine al_nil ?_; (simp only [go_sem, simprocAttr, List.length_map, hw, hnl, hn0, hkN, htN, hpN, hwr, Int.toNat_natCast, List.getElem?_map, Option.map_some]); refine hK _ ?_; clear hK K))
    refine awp_seq_k fun K hK => ?_
    (refine awp_reg_tov [0, 1, 4, 7, 8, 9, 53] [(53, bD ((w.fdiv (2 ^ min 32 64) != 0) || decide ((roomN k t p : Int) > (h.length : Int) - (n : Int))))] (h := ?_) (k := ?_); · ((repeat' (first | ((first | refine al_r rfl fun K' hK' => ?_ | refine al_t rfl rfl fun K' hK' => ?_); (repeat (simp only [go_sem, simprocAttr, List.length_map, hw, hnl, hn0, hkN, htN, hpN, hwr, Int.toNat_natCast, List.getElem?_map, Option.map_some])); (first | ((first | refine hK' _ _ ?_ | refine ⟨?_, hK' _ _ ?_⟩) <;> clear hK' K' <;> (first | (show alist _ _ _ _ _ _; skip) | (intro s hs; cases hs; done))) | ((show AC _ _ (D.fn 51 _) _ _); refine acall_p (f := 51) (e := rfl) (hr := rfl) (k := hK' _ _ ?_) (hc := Try.call51) (h := hro); clear hK' K'))) | refine al_e rfl rfl ?_ | ((fail_if_success (refine al_t rfl rfl fun K' hK' => ?_)); refine al_s _ rfl rfl rfl (fun hb => ?_) (fun hb => ?_)))); all_goals (refine al_nil ?_; simp only [go_sem, simprocAttr, List.length_map, hw, hnl, hn0, hkN, htN, hpN, hwr, Int.toNat_natCast, List.getElem?_map, Option.map_some, *, Bool.and_true, Bool.and_false, Bool.true_and, Bool.false_and, Bool.or_true, Bool.true_or, Bool.or_false, Bool.false_or, Bool.not_true, Bool.not_false, Bool.false_eq_true]))); intro K hK; (simp only [go_sem, simprocAttr, List.length_map, hw, hnl, hn0, hkN, htN, hpN, hwr, Int.toNat_natCast, List.getElem?_map, Option.map_some]); refine hK _ ?_; clear hK K
    refine awp_if (_) rfl (fun hc => ?_) (fun hc => ?_)
    · (refine awp_reg_seq [4, 5] fun K hK => ?_; (repeat' ((first | refine al_r rfl fun K' hK' => ?_ | refine al_d rfl fun K' hK' => ?_); (repeat (first | (simp only [go_sem, simprocAttr, List.length_map, hw, hnl, hn0, hkN, htN, hpN, hwr, Int.toNat_natCast, List.getElem?_map, Option.map_some]) | refine AS.mk ?_)); ((first | refine hK' _ _ ?_ | refine ⟨?_, hK' _ _ ?_⟩) <;> clear hK' K' <;> (first | (show alist _ _ _ _ _ _; skip) | (simp; done))))); all_goals (refine al_nil ?_; (simp only [go_sem, simprocAttr, List.length_map, hw, hnl, hn0, hkN, htN, hpN, hwr, Int.toNat_natCast, List.getElem?_map, Option.map_some]); refine hK _ ?_; clear hK K))
      refine awp_ret ?_; refine hR _ _ (.inl rfl) rfl ?_
      rw [if_pos hc] at hv
      rw [hv]
      simp only [go_sem, simprocAttr, List.length_map, hw, hnl, hn0, hkN, htN, hpN, hwr, Int.toNat_natCast, List.getElem?_map, Option.map_some, List.map_nil]
      rfl
    · rw [if_neg (by rw [hc]; simp)] at hv
      have hroom : n + roomN k t p ≤ h.length := by
        simp only [Bool.or_eq_false_iff, decide_eq_false_iff_not] at hc
        omega
      clear hro
      have hn1 : IntKind.i64.wrap ((n : Int) + 1) = ((n + 1 : Nat) : Int) := by
        simp [maxLen] at hlen
        rw [Go.Ab.wrap_small (by omega) (by omega)]; rfl

      refine awp_skip ?_
      refine hK _ ?_; clear hK K
      (refine awp_reg_seq [0, 1, 4, 7, 8, 9, 10] fun K hK => ?_; (repeat' ((first | refine al_r rfl fun K' hK' => ?_ | refine al_d rfl fun K' hK' => ?_); (repeat (first | (simp only [go_sem, simprocAttr, List.length_map, hn1]) | refine AS.mk ?_)); ((first | refine hK' _ _ ?_ | refine ⟨?_, hK' _ _ ?_⟩) <;> clear hK' K' <;> (first | (show alist _ _ _ _ _ _; skip) | (simp; done))))); all_goals (refine al_nil ?_; (simp only [go_sem, simprocAttr, List.length_map, hn1]); refine hK _ ?_; clear hK K))
      (refine awp_reg_seq [0, 1, 4, 7, 8, 9, 10] fun K hK => ?_; (repeat' ((refine al_r rfl fun K' hK' => ?_); (repeat (simp only [go_sem, simprocAttr, List.length_map, hn1])); ((refine hK' _ _ ?_) <;> clear hK' K'))); all_goals (refine al_nil ?_; (simp only [go_sem, simprocAttr, List.length_map, hn1]); refine hK _ ?_; clear hK K))
      refine awp_seq_kc fun K hK hcut => ?_
      have key : ∀ (a1 : Nat) (num : Int), n < a1 → a1 + (t + 7) / 8 + p ≤ h.length → R0 = atO h n (objO h n k num t p a1) (a1 + (t + 7) / 8 + p - n) → K ⟨ofL [(0, words h), (1, iD a1), (4, .ptr 0 0 0), (8, iD t), (9, iD p), (10, .ptr 1 0 0)], [.box [iD 0, iD 0, iD 0, .p (.lit (.string ByteArray.empty)), .nil], .box [iD n, iD k, iD num, .p (.lit (.string ByteArray.empty)), .nil]], 0⟩ := by
        clear hcut
        intro a1 num ha1 hfit hR1
        clear hv
        simp [maxLen] at hlen
        refine hK _ ?_; clear hK K
        (refine awp_reg_seq [0, 1, 4, 8, 9, 10, 11] fun K hK => ?_; (repeat' ((refine al_r rfl fun K' hK' => ?_); (repeat (simp only [go_sem, simprocAttr, List.length_map, hn1])); ((refine hK' _ _ ?_) <;> clear hK' K'))); all_goals (refine al_nil ?_; (simp only [go_sem, simprocAttr, List.length_map, hn1]); refine hK _ ?_; clear hK K))
        refine awp_born 11 1 rfl ?_
        refine awp_seq_k fun K hK => ?_
        (refine awp_reg_seq [0, 1, 4, 8, 9, 10, 11, 74, 75] fun K hK => ?_; (repeat' ((refine al_r rfl fun K' hK' => ?_); (repeat (simp only [go_sem, simprocAttr, List.length_map, hn1])); ((refine hK' _ _ ?_) <;> clear hK' K'))); all_goals (refine al_nil ?_; (simp only [go_sem, simprocAttr, List.length_map, hn1]); refine hK _ ?_; clear hK K))
        refine awp_block ?_
        -- loop 0 head [0, 1, 4, 8, 9, 10, 11, 74, 75]
        refine awp_loop_cut (fun m s => ∃ i : Nat, i ≤ t ∧ m = t - i ∧ s = ⟨ofL [(0, words h), (1, iD a1), (4, .ptr 0 0 0), (8, iD t), (9, iD p), (10, .ptr 1 0 0), (11, .ref 2 0 i), (74, iD t), (75, iD i)], [.box [iD 0, iD 0, iD 0, .p (.lit (.string ByteArray.empty)), .nil], .box [iD n, iD k, iD num, .p (.lit (.string ByteArray.empty)), .nil], .row 1 ((bytesN h a1 i).map brow)], 0⟩) ⟨_, 0, Nat.zero_le _, rfl, rfl⟩ ?_
        rintro m s ⟨i, hi, hmi, rfl⟩
        (refine awp_reg_seq [0, 1, 4, 8, 9, 10, 11, 74, 75, 76] fun K hK => ?_; (repeat' ((refine al_r rfl fun K' hK' => ?_); (repeat (simp only [go_sem, simprocAttr, List.length_map, hn1])); ((refine hK' _ _ ?_) <;> clear hK' K'))); all_goals (refine al_nil ?_; (simp only [go_sem, simprocAttr, List.length_map, hn1]); refine hK _ ?_; clear hK K))
        refine awp_seq_k fun K hK => ?_
        refine awp_if (decide ((i : Int) < (t : Int))) rfl (fun hc => ?_) (fun hc => ?_)
        · refine awp_skip ?_
          refine hK _ ?_; clear hK K
          refine awp_seq_k fun K hK => ?_
          refine awp_block ?_
          have hi2 : i < t := by simpa using hc
          obtain ⟨u, hget⟩ := get_of_lt (l := h) (i := a1 + i / 8) (by omega)
          have hgl := lt_of_get hget
          have hg0 : (0 : Int) ≤ ((a1 + i / 8 : Nat) : Int) := Int.natCast_nonneg _
          have hix : IntKind.i64.wrap ((i : Int) + 1) = ((i + 1 : Nat) : Int) := by rw [Go.Ab.wrap_small (by omega) (by omega)]; rfl
          have hq8 : IntKind.i64.wrap ((i : Int).tdiv 8) = ((i / 8 : Nat) : Int) := by
            rw [Int.tdiv_eq_ediv_of_nonneg (by omega), Go.Ab.wrap_small (by omega) (by omega)]; omega
          have hqa : IntKind.i64.wrap ((a1 : Int) + ((i / 8 : Nat) : Int)) = ((a1 + i / 8 : Nat) : Int) := by rw [Go.Ab.wrap_small (by omega) (by omega)]; rfl
          have hrm : (i : Int).tmod 8 = ((i % 8 : Nat) : Int) := by rw [Int.tmod_eq_emod_of_nonneg (by omega)]; omega
          have hm8 : IntKind.i64.wrap (8 * ((i % 8 : Nat) : Int)) = ((8 * (i % 8) : Nat) : Int) := by rw [Go.Ab.wrap_small (by omega) (by omega)]; omega
          have h80 : (0 : Int) ≤ ((8 * (i % 8) : Nat) : Int) := Int.natCast_nonneg _
          have hby : IntKind.u8.wrap (u.fdiv (2 ^ min (8 * (i % 8)) 64)) = byteN h a1 i := by unfold byteN; simp [List.getD, hget]
          have hti : List.take i ((bytesN h a1 i).map brow) = (bytesN h a1 i).map brow := List.take_of_length_le (by simp [bytesN])
          have hbl : (bytesN h a1 i).length = i := by simp [bytesN]
          have hfi : (i + 1) * 1 ≤ 140737488355328 := by omega

          (refine awp_reg_seq [0, 1, 4, 8, 9, 10, 11, 12, 74, 75] fun K hK => ?_; (repeat' ((refine al_r rfl fun K' hK' => ?_); (repeat (simp only [go_sem, simprocAttr, hget, hgl, hg0, hix, hq8, hqa, hrm, hm8, h80, hby, hti, hbl, hfi, Int.toNat_natCast, List.getElem?_map, Option.map_some, List.length_map, List.drop_zero, Nat.mul_one])); ((refine hK' _ _ ?_) <;> clear hK' K'))); all_goals (refine al_nil ?_; (simp only [go_sem, simprocAttr, hget, hgl, hg0, hix, hq8, hqa, hrm, hm8, h80, hby, hti, hbl, hfi, Int.toNat_natCast, List.getElem?_map, Option.map_some, List.length_map, List.drop_zero, Nat.mul_one]); refine hK _ ?_; clear hK K))
          (refine awp_reg_end [0, 1, 4, 8, 9, 10, 11, 74, 75] fun K hK => ?_; (repeat' ((refine al_r rfl fun K' hK' => ?_); (repeat (first | (simp only [go_sem, simprocAttr, hget, hgl, hg0, hix, hq8, hqa, hrm, hm8, h80, hby, hti, hbl, hfi, Int.toNat_natCast, List.getElem?_map, Option.map_some, List.length_map, List.drop_zero, Nat.mul_one]) | refine AAp.grow ?_)); ((first | refine hK' _ _ ?_ | refine ⟨?_, ?_, ?_, hK' _ _ ?_⟩) <;> clear hK' K' <;> (first | (show alist _ _ _ _ _ _; skip) | (simp; done) | omega)))); all_goals (refine al_nil ?_; (simp only [go_sem, simprocAttr, hget, hgl, hg0, hix, hq8, hqa, hrm, hm8, h80, hby, hti, hbl, hfi, Int.toNat_natCast, List.getElem?_map, Option.map_some, List.length_map, List.drop_zero, Nat.mul_one]); refine hK _ ?_; clear hK K))
          refine hK _ ?_; clear hK K
          (refine awp_reg_end [0, 1, 4, 8, 9, 10, 11, 74, 75] fun K hK => ?_; (repeat' ((refine al_r rfl fun K' hK' => ?_); (repeat (simp only [go_sem, simprocAttr, hget, hgl, hg0, hix, hq8, hqa, hrm, hm8, h80, hby, hti, hbl, hfi, Int.toNat_natCast, List.getElem?_map, Option.map_some, List.length_map, List.drop_zero, Nat.mul_one])); ((refine hK' _ _ ?_) <;> clear hK' K'))); all_goals (refine al_nil ?_; (simp only [go_sem, simprocAttr, hget, hgl, hg0, hix, hq8, hqa, hrm, hm8, h80, hby, hti, hbl, hfi, Int.toNat_natCast, List.getElem?_map, Option.map_some, List.length_map, List.drop_zero, Nat.mul_one]); refine hK _ ?_; clear hK K))
          refine ⟨t - (i + 1), by omega, [0, 1, 4, 8, 9, 10, 11, 74, 75], [0, 1, 4], by decide, by intro q hq; exact absurd hq (Nat.not_lt_zero q), i + 1, hi2, rfl, ?_⟩
          rw [bytesN_succ, List.map_append]
          simp only [go_sem, simprocAttr, hget, hgl, hg0, hix, hq8, hqa, hrm, hm8, h80, hby, hti, hbl, hfi, Int.toNat_natCast, List.getElem?_map, Option.map_some, List.length_map, List.drop_zero, Nat.mul_one]
        · have hit : t = i := by simp at hc; omega
          subst hit
          have htB : List.take t ((bytesN h a1 t).map brow) = (bytesN h a1 t).map brow := List.take_of_length_le (by simp [bytesN])
          have hbb : ((bytesN h a1 t).map brow).mapM oneB = some (bytesN h a1 t) := bytes_map _
          have h7a : IntKind.i64.wrap ((t : Int) + 7) = ((t + 7 : Nat) : Int) := by rw [Go.Ab.wrap_small (by omega) (by omega)]; rfl
          have h7b : IntKind.i64.wrap (((t + 7 : Nat) : Int).tdiv 8) = (((t + 7) / 8 : Nat) : Int) := by
            rw [Int.tdiv_eq_ediv_of_nonneg (by omega), Go.Ab.wrap_small (by omega) (by omega)]; omega
          have h7c : IntKind.i64.wrap ((a1 : Int) + (((t + 7) / 8 : Nat) : Int)) = ((a1 + (t + 7) / 8 : Nat) : Int) := by rw [Go.Ab.wrap_small (by omega) (by omega)]; rfl
          generalize hA2 : a1 + (t + 7) / 8 = a2 at *
          have hAp : IntKind.i64.wrap ((a2 : Int) + (p : Int)) = ((a2 + p : Nat) : Int) := by rw [Go.Ab.wrap_small (by omega) (by omega)]; rfl
          have ha0 : (0 : Int) ≤ (a2 : Int) := Int.natCast_nonneg _
          have ha01 : (0 : Int) ≤ ((a2 + p : Nat) : Int) := Int.natCast_nonneg _
          have ha3 : ((a2 + p : Nat) : Int) ≤ (h.length : Int) := by omega
          have ha4 : (a2 : Int) ≤ ((a2 + p : Nat) : Int) := by omega
          have hrw := wrow1 h
          obtain ⟨P, hP⟩ : ∃ P, P = (h.drop a2).take p := ⟨_, rfl⟩
          have hPl : P.length = p := by rw [hP]; exact cut_len h (by omega)
          have hPw := wrow1 P
          have hdt : List.drop a2 (List.take (a2 + p) (h.map wrow)) = P.map wrow := by rw [hP, List.drop_take, Nat.add_sub_cancel_left, List.map_take, List.map_drop]
          have hPt : List.take p (P.map wrow) = P.map wrow := List.take_of_length_le (by simp [hPl])
          have hPf : p * 8 ≤ 140737488355328 := by omega

          refine awp_exit ?_
          clear hK
          refine hK _ ?_; clear hK K
          (refine awp_reg_seq [0, 1, 4, 9, 10] fun K hK => ?_; (repeat' ((first | refine al_r rfl fun K' hK' => ?_ | refine al_d rfl fun K' hK' => ?_); (repeat (first | (simp only [go_sem, simprocAttr, List.length_map, htB, hbb, h7a, h7b, h7c, List.drop_zero]) | refine AS.mk ?_)); ((first | refine hK' _ _ ?_ | refine ⟨?_, hK' _ _ ?_⟩) <;> clear hK' K' <;> (first | (show alist _ _ _ _ _ _; skip) | (simp; done))))); all_goals (refine al_nil ?_; (simp only [go_sem, simprocAttr, List.length_map, htB, hbb, h7a, h7b, h7c, List.drop_zero]); refine hK _ ?_; clear hK K))
          (refine awp_frz [0, 1, 4, 9, 10] [0, 1] (by decide) (by (simp; done)) ?_; simp only [go_sem, simprocAttr, List.length_map, htB, hbb, h7a, h7b, h7c, List.drop_zero])
          refine awp_born_box 1 4 1 rfl rfl ?_
          simp only [go_sem, simprocAttr, List.length_map, htB, hbb, h7a, h7b, h7c, List.drop_zero]

          refine awp_draw_seq (by kernel_rfl) [0, 1, 4, 9, 10] fun K hK => ?_
          have key : K (⟨ofL [(0, words h), (1, iD a2), (4, .ptr 0 0 0), (9, iD p), (10, .ptr 1 0 0)], [.box [iD 0, iD 0, iD 0, .p (.lit (.string ByteArray.empty)), .nil], .box [iD n, iD k, iD num, .p (.lit (.string (pushB (bytesN h a1 t)))), .ref 3 0 p], .dead, .row 1 (P.map wrow)], 0⟩) := by
            refine hK _ ?_; clear hK K
            (refine awp_frz [0, 1, 4, 9, 10] [0] (by decide) (by (simp; done)) ?_; simp only [go_sem, simprocAttr, List.length_map, hdt, hPl, hPt, hPf, hAp, Nat.zero_add, ha0, ha01, ha3, ha4, Int.toNat_natCast, List.take_nil, List.take_zero, List.nil_append])
            obtain ⟨o, ho⟩ : ∃ o : Obj, o = ⟨n, k, num, pushB (bytesN h a1 t), P⟩ := ⟨_, rfl⟩
            have hoo : objO h n k num t p a1 = o := by unfold objO; rw [ho, hA2, hP]
            have hpu0 : ACallP Try.prog 17 [.nil, objD o] _ := ACallP.soft (put [] o (by simp)) rfl
            have hR2 : R0 = if ((putS [] o).2.2 != 0) || !(listEq eqI (putS [] o).1 ((h.drop n).take (a2 + p - n))) then (z0, 3) else (o, 0) := by rw [hR1, hoo]; rfl
            have hxl := put_len [] o (by simp)
            have heq := equalW (putS [] o).1 ((h.drop n).take (a2 + p - n)) (by simp at hxl; simp [maxLen]; omega)
            generalize putS [] o = X at hpu0 hR2 heq
            obtain ⟨x, y, e⟩ := X
            simp only at hpu0 hR2 heq
            generalize listEq eqI x ((h.drop n).take (a2 + p - n)) = le at heq hR2
            have hdn : List.drop n (List.take (a2 + p) (h.map wrow)) = ((h.drop n).take (a2 + p - n)).map wrow := by rw [List.drop_take, List.map_take, List.map_drop]
            have hnle : (n : Int) ≤ ((a2 + p : Nat) : Int) := by omega
            have hov : o.at_ = n ∧ o.kind = k ∧ o.num = num ∧ o.text = pushB (bytesN h a1 t) ∧ o.parts = P := by rw [ho]; exact ⟨rfl, rfl, rfl, rfl, rfl⟩
            obtain ⟨v1, v2, v3, v4, v5⟩ := hov
            clear ho hoo hR1
            rw [← v1, ← v2, ← v3, ← v4, ← v5]
            refine awp_seq_k fun K hK => ?_

            (refine awp_reg_seq [0, 1, 4, 9, 10, 13, 15] fun K hK => ?_; (repeat' ((refine al_r rfl fun K' hK' => ?_); (repeat (simp only [go_sem, simprocAttr, List.length_map])); (first | ((refine hK' _ _ ?_) <;> clear hK' K') | ((show AC _ _ (D.fn 17 _) _ _); refine acall_p (f := 17) (e := rfl) (hr := rfl) (k := hK' _ _ ?_) (hc := Try.call17) (h := hpu0); clear hK' K')))); all_goals (refine al_nil ?_; (simp only [go_sem, simprocAttr, List.length_map]); refine hK _ ?_; clear hK K))

            refine awp_reg_tov [4, 10, 131] [(131, bD ((e != 0) || !le))] (h := ?_) (k := ?_)
            · obtain ⟨en, hen⟩ : ∃ en, (e != 0) = en := ⟨_, rfl⟩
              cases en <;> cases le

              all_goals ((repeat' (first | ((first | refine al_r rfl fun K' hK' => ?_ | refine al_t rfl rfl fun K' hK' => ?_); (repeat (simp only [go_sem, simprocAttr, List.length_map, v1, hdn, hn0, hnle, hAp, ha01, ha3, Int.toNat_natCast, hen])); (first | ((first | refine hK' _ _ ?_ | refine ⟨?_, hK' _ _ ?_⟩) <;> clear hK' K' <;> (first | (show alist _ _ _ _ _ _; skip) | assumption)) | ((show AC _ _ (D.fn 18 _) _ _); refine acall_p (f := 18) (e := rfl) (hr := rfl) (k := hK' _ _ ?_) (hc := Try.call18) (h := heq); clear hK' K'))) | refine al_e rfl rfl ?_)); all_goals (refine al_nil ?_; (simp only [go_sem, simprocAttr, List.length_map, v1, hdn, hn0, hnle, hAp, ha01, ha3, Int.toNat_natCast, hen, *, Bool.and_true, Bool.and_false, Bool.true_and, Bool.false_and, Bool.or_true, Bool.true_or, Bool.or_false, Bool.false_or, Bool.not_true, Bool.not_false, Bool.false_eq_true]; done)))

            (intro K hK; (simp only [go_sem, simprocAttr, List.length_map, v1]); refine hK _ ?_; clear hK K)
            refine awp_if (_) rfl (fun hc => ?_) (fun hc => ?_)
            · (refine awp_reg_seq [4, 5] fun K hK => ?_; (repeat' ((first | refine al_r rfl fun K' hK' => ?_ | refine al_d rfl fun K' hK' => ?_); (repeat (first | (simp only [go_sem, simprocAttr, List.length_map, v1]) | refine AS.mk ?_)); ((first | refine hK' _ _ ?_ | refine ⟨?_, hK' _ _ ?_⟩) <;> clear hK' K' <;> (first | (show alist _ _ _ _ _ _; skip) | (simp; done))))); all_goals (refine al_nil ?_; (simp only [go_sem, simprocAttr, List.length_map, v1]); refine hK _ ?_; clear hK K))
              refine awp_ret ?_; refine hR _ _ (.inl rfl) rfl ?_
              rw [if_pos hc] at hR2
              rw [hR2]
              simp only [go_sem, simprocAttr, List.length_map, v1, List.map_nil]
              rfl
            · rw [if_neg (by rw [hc]; simp)] at hR2
              refine awp_skip ?_
              refine hK _ ?_; clear hK K
              (refine awp_reg_seq [4, 5] fun K hK => ?_; (repeat' ((first | refine al_r rfl fun K' hK' => ?_ | refine al_d rfl fun K' hK' => ?_); (repeat (first | (simp only [go_sem, simprocAttr, List.length_map, v1]) | refine AS.mk ?_)); ((first | refine hK' _ _ ?_ | refine ⟨?_, hK' _ _ ?_⟩) <;> clear hK' K' <;> (first | (show alist _ _ _ _ _ _; skip) | (simp; done))))); all_goals (refine al_nil ?_; (simp only [go_sem, simprocAttr, List.length_map, v1]); refine hK _ ?_; clear hK K))
              refine awp_ret ?_; refine hR _ _ (.inl rfl) rfl ?_
              rw [hR2]
              simp only [go_sem, simprocAttr, List.length_map, v1, objD]

          ((refine ah_r 0 rfl (by kernel_rfl) rfl fun K' hK' => ?_); (simp only [go_sem, simprocAttr, List.length_map, hdt, hPl, hPt, hPf, hAp, Nat.zero_add, ha0, ha01, ha3, ha4, Int.toNat_natCast, List.take_nil, List.take_zero, List.nil_append]); ((refine hK' _ ?_); clear hK' K'))
          ((refine ah_r 2 rfl (by kernel_rfl) rfl fun K' hK' => ?_); (simp only [go_sem, simprocAttr, List.length_map, hdt, hPl, hPt, hPf, hAp, Nat.zero_add, ha0, ha01, ha3, ha4, Int.toNat_natCast, List.take_nil, List.take_zero, List.nil_append]); ((refine hK' _ ?_); clear hK' K'))
          ((refine ah_r 3 rfl (by kernel_rfl) rfl fun K' hK' => ?_); (simp only [go_sem, simprocAttr, List.length_map, hdt, hPl, hPt, hPf, hAp, Nat.zero_add, ha0, ha01, ha3, ha4, Int.toNat_natCast, List.take_nil, List.take_zero, List.nil_append]); ((refine hK' _ ?_); clear hK' K'))
          ((refine ah_r 4 rfl (by kernel_rfl) rfl fun K' hK' => ?_); (simp only [go_sem, simprocAttr, List.length_map, hdt, hPl, hPt, hPf, hAp, Nat.zero_add, ha0, ha01, ha3, ha4, Int.toNat_natCast, List.take_nil, List.take_zero, List.nil_append]); ((refine hK' _ ?_); clear hK' K'))
          ((refine ah_r 5 rfl (by kernel_rfl) rfl fun K' hK' => ?_); (simp only [go_sem, simprocAttr, List.length_map, hdt, hPl, hPt, hPf, hAp, Nat.zero_add, ha0, ha01, ha3, ha4, Int.toNat_natCast, List.take_nil, List.take_zero, List.nil_append]); ((refine hK' _ ?_); clear hK' K'))
          ((refine ah_r 6 rfl (by kernel_rfl) rfl fun K' hK' => ?_); (simp only [go_sem, simprocAttr, List.length_map, hdt, hPl, hPt, hPf, hAp, Nat.zero_add, ha0, ha01, ha3, ha4, Int.toNat_natCast, List.take_nil, List.take_zero, List.nil_append]); ((refine hK' _ ?_); clear hK' K'))
          refine ah_two 1 7 rfl rfl (by kernel_rfl) ?_ ?_
          · ((repeat' ((refine al_r rfl fun K' hK' => ?_); (repeat (simp only [go_sem, simprocAttr, List.length_map, hdt, hPl, hPt, hPf, hAp, Nat.zero_add, ha0, ha01, ha3, ha4, Int.toNat_natCast, List.take_nil, List.take_zero, List.nil_append])); ((refine hK' _ _ ?_) <;> clear hK' K'))); all_goals refine al_nil ?_)
            (refine ah_one 7 rfl (by kernel_rfl) ?_; (repeat' ((refine al_r rfl fun K' hK' => ?_); (repeat (simp only [go_sem, simprocAttr, List.length_map, hdt, hPl, hPt, hPf, hAp, Nat.zero_add, ha0, ha01, ha3, ha4, Int.toNat_natCast, List.take_nil, List.take_zero, List.nil_append])); ((refine ⟨?_, hK' _ _ ?_⟩) <;> clear hK' K' <;> (first | (show alist _ _ _ _ _ _; skip) | assumption)))); all_goals refine al_nil ?_)
            (refine ah_one 8 rfl (by kernel_rfl) ?_; (repeat' ((refine al_r rfl fun K' hK' => ?_); (repeat (first | (simp only [go_sem, simprocAttr, List.length_map, hdt, hPl, hPt, hPf, hAp, Nat.zero_add, ha0, ha01, ha3, ha4, Int.toNat_natCast, List.take_nil, List.take_zero, List.nil_append]) | refine AAp.grow ?_)); ((refine ⟨?_, hK' _ _ ?_⟩) <;> clear hK' K' <;> (first | (show alist _ _ _ _ _ _; skip) | assumption)))); all_goals refine al_nil ?_)
            ((refine ah_r 9 rfl (by kernel_rfl) rfl fun K' hK' => ?_); (simp only [go_sem, simprocAttr, List.length_map, hdt, hPl, hPt, hPf, hAp, Nat.zero_add, ha0, ha01, ha3, ha4, Int.toNat_natCast, List.take_nil, List.take_zero, List.nil_append]); ((refine hK' _ ?_); clear hK' K'))
            (refine ah_one 10 rfl (by kernel_rfl) ?_; (repeat' ((refine al_d rfl fun K' hK' => ?_); (repeat (first | (simp only [go_sem, simprocAttr, List.length_map, hdt, hPl, hPt, hPf, hAp, Nat.zero_add, ha0, ha01, ha3, ha4, Int.toNat_natCast, List.take_nil, List.take_zero, List.nil_append]) | refine AS.mk ?_)); ((refine ⟨?_, hK' _ _ ?_⟩) <;> clear hK' K' <;> (first | (show alist _ _ _ _ _ _; skip) | (simp; done))))); all_goals refine al_nil ?_)
            (refine ah_done (by kernel_rfl) ?_; (simp only [go_sem, simprocAttr, List.length_map, hdt, hPl, hPt, hPf, hAp, Nat.zero_add, ha0, ha01, ha3, ha4, Int.toNat_natCast, List.take_nil, List.take_zero, List.nil_append]); exact key)
          · ((repeat' ((refine al_r rfl fun K' hK' => ?_); (repeat (simp only [go_sem, simprocAttr, List.length_map, hdt, hPl, hPt, hPf, hAp, Nat.zero_add, ha0, ha01, ha3, ha4, Int.toNat_natCast, List.take_nil, List.take_zero, List.nil_append])); ((refine ⟨?_, hK' _ _ ?_⟩) <;> clear hK' K' <;> (first | (show alist _ _ _ _ _ _; skip) | assumption)))); all_goals refine al_nil ?_)
            (refine ah_one 1 rfl (by kernel_rfl) ?_; (repeat' ((refine al_r rfl fun K' hK' => ?_); (repeat (simp only [go_sem, simprocAttr, List.length_map, hdt, hPl, hPt, hPf, hAp, Nat.zero_add, ha0, ha01, ha3, ha4, Int.toNat_natCast, List.take_nil, List.take_zero, List.nil_append])); ((refine hK' _ _ ?_) <;> clear hK' K'))); all_goals refine al_nil ?_)
            (refine ah_one 8 rfl (by kernel_rfl) ?_; (repeat' ((refine al_r rfl fun K' hK' => ?_); (repeat (first | (simp only [go_sem, simprocAttr, List.length_map, hdt, hPl, hPt, hPf, hAp, Nat.zero_add, ha0, ha01, ha3, ha4, Int.toNat_natCast, List.take_nil, List.take_zero, List.nil_append]) | refine AAp.grow ?_)); ((refine ⟨?_, hK' _ _ ?_⟩) <;> clear hK' K' <;> (first | (show alist _ _ _ _ _ _; skip) | assumption)))); all_goals refine al_nil ?_)
            ((refine ah_r 9 rfl (by kernel_rfl) rfl fun K' hK' => ?_); (simp only [go_sem, simprocAttr, List.length_map, hdt, hPl, hPt, hPf, hAp, Nat.zero_add, ha0, ha01, ha3, ha4, Int.toNat_natCast, List.take_nil, List.take_zero, List.nil_append]); ((refine hK' _ ?_); clear hK' K'))
            (refine ah_one 10 rfl (by kernel_rfl) ?_; (repeat' ((refine al_d rfl fun K' hK' => ?_); (repeat (first | (simp only [go_sem, simprocAttr, List.length_map, hdt, hPl, hPt, hPf, hAp, Nat.zero_add, ha0, ha01, ha3, ha4, Int.toNat_natCast, List.take_nil, List.take_zero, List.nil_append]) | refine AS.mk ?_)); ((refine ⟨?_, hK' _ _ ?_⟩) <;> clear hK' K' <;> (first | (show alist _ _ _ _ _ _; skip) | (simp; done))))); all_goals refine al_nil ?_)
            (refine ah_done (by kernel_rfl) ?_; (simp only [go_sem, simprocAttr, List.length_map, hdt, hPl, hPt, hPf, hAp, Nat.zero_add, ha0, ha01, ha3, ha4, Int.toNat_natCast, List.take_nil, List.take_zero, List.nil_append]); exact key)

      (refine awp_reg_tov [0, 1, 4, 8, 9, 10, 65] [(65, bD (k == 1 || k == 4))] (h := ?_) (k := ?_); · ((repeat' (first | ((first | refine al_r rfl fun K' hK' => ?_ | refine al_t rfl rfl fun K' hK' => ?_); (repeat (simp only [go_sem, simprocAttr, List.length_map, hn1])); ((refine hK' _ _ ?_) <;> clear hK' K')) | refine al_e rfl rfl ?_ | ((fail_if_success (refine al_t rfl rfl fun K' hK' => ?_)); refine al_s _ rfl rfl rfl (fun hb => ?_) (fun hb => ?_)))); all_goals (refine al_nil ?_; simp only [go_sem, simprocAttr, List.length_map, hn1, *, Bool.and_true, Bool.and_false, Bool.true_and, Bool.false_and, Bool.or_true, Bool.true_or, Bool.or_false, Bool.false_or, Bool.not_true, Bool.not_false, Bool.false_eq_true]))); intro K hK; (simp only [go_sem, simprocAttr, List.length_map, hn1]); refine hK _ ?_; clear hK K
      refine awp_if (numK k) rfl (fun hc => ?_) (fun hc => ?_)
      · have hrm : roomN k t p = 1 + (t + 7) / 8 + p + 1 := by unfold roomN; rw [if_pos hc]
        obtain ⟨v, hv1⟩ := get_of_lt (l := h) (i := n + 1) (by omega)
        have hvl := lt_of_get hv1
        have hRa : R0 = atO h n (objO h n k (IntKind.i64.wrap v) t p (n + 2)) (n + 2 + (t + 7) / 8 + p - n) := by
          rw [hv]; unfold atR; rw [if_pos hc, show h.getD (n + 1) 0 = v by simp [List.getD, hv1]]
        have hn2 : IntKind.i64.wrap (((n + 1 : Nat) : Int) + 1) = ((n + 2 : Nat) : Int) := by
          simp [maxLen] at hlen
          rw [Go.Ab.wrap_small (by omega) (by omega)]; rfl
        have hn10 : (0 : Int) ≤ ((n + 1 : Nat) : Int) := Int.natCast_nonneg _

        (refine awp_reg_seq [0, 1, 4, 8, 9, 10] fun K hK => ?_; (repeat' ((first | refine al_r rfl fun K' hK' => ?_ | refine al_d rfl fun K' hK' => ?_); (repeat (first | (simp only [go_sem, simprocAttr, List.length_map, hv1, hvl, hn2, hn10, Int.toNat_natCast, List.getElem?_map, Option.map_some]) | refine AS.mk ?_)); ((first | refine hK' _ _ ?_ | refine ⟨?_, hK' _ _ ?_⟩) <;> clear hK' K' <;> (first | (show alist _ _ _ _ _ _; skip) | (simp; done))))); all_goals (refine al_nil ?_; (simp only [go_sem, simprocAttr, List.length_map, hv1, hvl, hn2, hn10, Int.toNat_natCast, List.getElem?_map, Option.map_some]); refine hK _ ?_; clear hK K))
        (refine awp_reg_end [0, 1, 4, 8, 9, 10] fun K hK => ?_; (repeat' ((refine al_r rfl fun K' hK' => ?_); (repeat (simp only [go_sem, simprocAttr, List.length_map, hv1, hvl, hn2, hn10, Int.toNat_natCast, List.getElem?_map, Option.map_some])); ((refine hK' _ _ ?_) <;> clear hK' K'))); all_goals (refine al_nil ?_; (simp only [go_sem, simprocAttr, List.length_map, hv1, hvl, hn2, hn10, Int.toNat_natCast, List.getElem?_map, Option.map_some]); refine hK _ ?_; clear hK K))
        (refine hcut _ [0, 1, 4, 8, 9, 10] [0, 1] (by decide) (by intro q hq; exact absurd hq (Nat.not_lt_zero q)) ?_; simp only [go_sem, simprocAttr, List.length_map, hv1, hvl, hn2, hn10, Int.toNat_natCast, List.getElem?_map, Option.map_some]; (exact key (n + 2) _ (by omega) (by omega) hRa))
      · have hrm : roomN k t p = 1 + (t + 7) / 8 + p := by unfold roomN; rw [if_neg (by rw [hc]; simp)]; rfl
        have hRb : R0 = atO h n (objO h n k 0 t p (n + 1)) (n + 1 + (t + 7) / 8 + p - n) := by
          rw [hv]; unfold atR; rw [if_neg (by rw [hc]; simp)]

        refine awp_skip ?_
        (refine hcut _ [0, 1, 4, 8, 9, 10] [0, 1] (by decide) (by intro q hq; exact absurd hq (Nat.not_lt_zero q)) ?_; simp only [go_sem, simprocAttr, List.length_map]; (exact key (n + 1) 0 (by omega) (by omega) hRb))
end Go.Proofs.Ytagphggcdmjlpaa.P

/- The objects of a heap, in order: a contract. -/
namespace Go.Proofs.Ytagphggcdmjlpaa.P
open Go.Ab Go.Proofs.Ytagphggcdmjlpaa.T

abbrev objs (l : List Obj) : D := .p (.sl (l.map Obj.row))

theorem at_ok {h : List Int} {a : Int} (he : (atS h a).2 = 0) (hlen : h.length ≤ maxLen) (hok : ∀ w, w ∈ h → WordOk w) : ∃ n : Nat, a = n ∧ n < h.length ∧ (atS h a).1.at_ = n ∧ rightS (atS h a).1 = true ∧ (encW (atS h a).1).length ≤ 4000 ∧
    n + (encW (atS h a).1).length ≤ h.length ∧ encW (atS h a).1 = (h.drop n).take (encW (atS h a).1).length := by
  have key : ∀ (n m : Nat) (o : Obj), n < h.length → o.at_ = n → (atO h n o m).2 = 0 → (atO h n o m).1.at_ = n ∧ rightS (atO h n o m).1 = true ∧ (encW (atO h n o m).1).length ≤ 4000 ∧
      n + (encW (atO h n o m).1).length ≤ h.length ∧ encW (atO h n o m).1 = (h.drop n).take (encW (atO h n o m).1).length := by
    intro n m o hn hoa h1
    unfold atO at h1 ⊢
    by_cases hc : (((putS [] o).2.2 != 0) || !(listEq eqI (putS [] o).1 ((h.drop n).take m))) = true
    · rw [if_pos hc] at h1; cases h1
    · rw [if_neg hc]
      dsimp only
      simp only [Bool.or_eq_true, not_or, bne_iff_ne, ne_eq, Decidable.not_not, Bool.not_eq_true', Bool.not_eq_false] at hc
      obtain ⟨h2, h3⟩ := hc
      have h3 := (listEq_iff eqI_iff).1 h3
      unfold putS at h2 h3
      by_cases hr : (!rightS o) = true
      · rw [if_pos hr] at h2; cases h2
      rw [if_neg hr] at h2 h3
      split at h2
      · cases h2
      · rename_i h4
        rw [if_neg h4] at h3
        simp only [List.nil_append] at h3
        have hl := congrArg List.length h3
        rw [List.length_take, List.length_drop] at hl
        have he := enc_len o
        simp only [List.length_nil, decide_eq_true_eq] at h4
        refine ⟨hoa, by simpa using hr, by omega, by omega, ?_⟩
        rw [h3] at hl ⊢
        rw [List.length_take, List.length_drop, List.take_eq_take_iff]
        simp only [List.length_drop]
        omega
  unfold atS at he ⊢
  by_cases h1 : (decide (a < 0) || decide (a ≥ (h.length : Int))) = true
  · rw [if_pos h1] at he; cases he
  rw [if_neg h1] at he ⊢
  simp at h1
  obtain ⟨n, rfl⟩ := Int.eq_ofNat_of_zero_le h1.1
  have hnl : n < h.length := by omega
  obtain ⟨w, hw⟩ := get_of_lt hnl
  rw [Int.toNat_natCast, hw] at he ⊢
  simp only at he ⊢
  split at he
  · cases he
  · rename_i h2
    rw [if_neg h2]
    refine ⟨n, rfl, hnl, ?_⟩
    unfold atR at he ⊢
    split at he
    · rename_i h3
      rw [if_pos h3]
      exact key n _ _ hnl rfl he
    · rename_i h3
      rw [if_neg h3]
      exact key n _ _ hnl rfl he

/-- What Objects answers from a place on. -/
def objF (h : List Int) : Nat → Nat → List Obj → List Obj × Int
  | 0, _, acc => (acc, 0)
  | f + 1, a, acc => if a < h.length then (if (atS h a).2 != 0 then ([], 3) else objF h f (a + roomN (atS h a).1.kind (atS h a).1.text.size (atS h a).1.parts.length) (acc ++ [(atS h a).1])) else (acc, 0)
def objsS (h : List Int) : List Obj × Int := if decide ((h.length : Int) > 4000) then ([], 2) else objF h (h.length + 1) 0 []


theorem objects (h : List Int) (hlen : h.length ≤ maxLen) (hok : ∀ w, w ∈ h → WordOk w) : ACallP Try.prog 15 [words h] (.tup [objs (objsS h).1, iD (objsS h).2]) := by
  obtain ⟨R0, hR0⟩ : ∃ R0, R0 = objsS h := ⟨_, rfl⟩
  have hv : R0 = if decide ((h.length : Int) > 4000) then ([], 2) else objF h (h.length + 1) 0 [] := hR0
  rw [← hR0]
  clear hR0
  refine acallp_fn [2, 3] Try.func15 rfl rfl Try.ntmps15 (by simp) fun R hR => ?_
  (refine awp_reg_seq [0] fun K hK => ?_; (repeat' ((refine al_r rfl fun K' hK' => ?_); (repeat (simp only [go_sem, simprocAttr, List.length_map])); ((refine hK' _ _ ?_) <;> clear hK' K'))); all_goals (refine al_nil ?_; (simp only [go_sem, simprocAttr, List.length_map]); refine hK _ ?_; clear hK K))
  refine awp_seq_k fun K hK => ?_
  (refine awp_reg_seq [0, 10] fun K hK => ?_; (repeat' ((refine al_r rfl fun K' hK' => ?_); (repeat (simp only [go_sem, simprocAttr, List.length_map])); ((first | refine hK' _ _ ?_ | refine ⟨?_, hK' _ _ ?_⟩) <;> clear hK' K' <;> (first | (show alist _ _ _ _ _ _; skip) | (intro s hs; cases hs; done))))); all_goals (refine al_nil ?_; (simp only [go_sem, simprocAttr, List.length_map]); refine hK _ ?_; clear hK K))
  refine awp_if (decide ((h.length : Int) > 4000)) rfl (fun hc => ?_) (fun hc => ?_)
  · (refine awp_reg_seq [2, 3] fun K hK => ?_; (repeat' ((refine al_r rfl fun K' hK' => ?_); (repeat (simp only [go_sem, simprocAttr, List.length_map])); ((refine hK' _ _ ?_) <;> clear hK' K'))); all_goals (refine al_nil ?_; (simp only [go_sem, simprocAttr, List.length_map]); refine hK _ ?_; clear hK K))
    refine awp_ret ?_; (refine hR _ _ (.inl rfl) rfl ?_)
    rw [if_pos hc] at hv
    rw [hv]
    simp only [go_sem, simprocAttr, List.length_map, List.map_nil]
    rfl
  · rw [if_neg (by rw [hc]; simp)] at hv
    have h4 : h.length ≤ 4000 := by simp at hc; omega
    refine awp_skip ?_
    refine hK _ ?_; clear hK K
    (refine awp_reg_seq [0, 4] fun K hK => ?_; (repeat' ((refine al_r rfl fun K' hK' => ?_); (repeat (simp only [go_sem, simprocAttr, List.length_map])); ((refine hK' _ _ ?_) <;> clear hK' K'))); all_goals (refine al_nil ?_; (simp only [go_sem, simprocAttr, List.length_map]); refine hK _ ?_; clear hK K))
    refine awp_born 4 5 rfl ?_
    refine awp_seq_k fun K hK => ?_
    (refine awp_reg_seq [0, 4, 5] fun K hK => ?_; (repeat' ((refine al_r rfl fun K' hK' => ?_); (repeat (simp only [go_sem, simprocAttr, List.length_map])); ((refine hK' _ _ ?_) <;> clear hK' K'))); all_goals (refine al_nil ?_; (simp only [go_sem, simprocAttr, List.length_map]); refine hK _ ?_; clear hK K))
    refine awp_block ?_
    -- loop 0 head [0, 4, 5]
    refine awp_loop_cut (fun m s => ∃ (a f : Nat) (acc : List Obj), m = h.length - a ∧ a ≤ h.length ∧ acc.length ≤ a ∧ h.length - a < f ∧ R0 = objF h f a acc ∧ s = ⟨ofL [(0, words h), (4, .ref 0 0 acc.length), (5, iD a)], [.row 5 (acc.map Obj.row)], 0⟩) ⟨_, 0, h.length + 1, [], rfl, Nat.zero_le _, Nat.zero_le _, by omega, hv, rfl⟩ ?_
    clear hv
    rintro m s ⟨a, f, acc, hm, hal, hacc, hf, hR1, rfl⟩
    refine awp_seq_k fun K hK => ?_
    (refine awp_reg_seq [0, 4, 5, 14] fun K hK => ?_; (repeat' ((refine al_r rfl fun K' hK' => ?_); (repeat (simp only [go_sem, simprocAttr, List.length_map])); ((first | refine hK' _ _ ?_ | refine ⟨?_, hK' _ _ ?_⟩) <;> clear hK' K' <;> (first | (show alist _ _ _ _ _ _; skip) | (intro s hs; cases hs; done))))); all_goals (refine al_nil ?_; (simp only [go_sem, simprocAttr, List.length_map]); refine hK _ ?_; clear hK K))
    refine awp_if (decide ((a : Int) < (h.length : Int))) rfl (fun hc => ?_) (fun hc => ?_)
    · refine awp_skip ?_
      refine hK _ ?_; clear hK K
      refine awp_block ?_
      have ha2 : a < h.length := by simpa using hc
      obtain ⟨f', rfl⟩ : ∃ f', f = f' + 1 := ⟨f - 1, by omega⟩
      have hR2 : R0 = if (atS h a).2 != 0 then ([], 3) else objF h f' (a + roomN (atS h a).1.kind (atS h a).1.text.size (atS h a).1.parts.length) (acc ++ [(atS h a).1]) := by
        rw [hR1]; show (if a < h.length then _ else _) = _; rw [if_pos ha2]
      clear hR1
      have hat := at_ h a hlen hok
      have haok := at_ok (a := (a : Int)) (h := h)
      generalize atS h a = Q at hat haok hR2
      obtain ⟨o, e⟩ := Q
      simp only at hat haok hR2

      (refine awp_reg_seq [0, 4, 5, 6, 7] fun K hK => ?_; (repeat' ((first | refine al_r rfl fun K' hK' => ?_ | refine al_d rfl fun K' hK' => ?_); (repeat (first | (simp only [go_sem, simprocAttr, List.length_map]) | refine AS.mk ?_)); (first | ((first | refine hK' _ _ ?_ | refine ⟨?_, hK' _ _ ?_⟩) <;> clear hK' K' <;> (first | (show alist _ _ _ _ _ _; skip) | (simp; done))) | ((show AC _ _ (D.fn 19 _) _ _); refine acall_p (f := 19) (e := rfl) (hr := rfl) (k := hK' _ _ ?_) (hc := Try.call19) (h := hat); clear hK' K')))); all_goals (refine al_nil ?_; (simp only [go_sem, simprocAttr, List.length_map]); refine hK _ ?_; clear hK K))
      (refine awp_frz [0, 4, 5, 6, 7] [0] (by decide) (by (simp; done)) ?_; simp only [go_sem, simprocAttr, List.length_map])
      refine awp_seq_k fun K hK => ?_
      (refine awp_reg_seq [0, 4, 5, 6, 22] fun K hK => ?_; (repeat' ((refine al_r rfl fun K' hK' => ?_); (repeat (simp only [go_sem, simprocAttr, List.length_map])); ((refine hK' _ _ ?_) <;> clear hK' K'))); all_goals (refine al_nil ?_; (simp only [go_sem, simprocAttr, List.length_map]); refine hK _ ?_; clear hK K))
      refine awp_if (e != 0) rfl (fun hc => ?_) (fun hc => ?_)
      · (refine awp_reg_seq [2, 3] fun K hK => ?_; (repeat' ((refine al_r rfl fun K' hK' => ?_); (repeat (simp only [go_sem, simprocAttr, List.length_map])); ((refine hK' _ _ ?_) <;> clear hK' K'))); all_goals (refine al_nil ?_; (simp only [go_sem, simprocAttr, List.length_map]); refine hK _ ?_; clear hK K))
        refine awp_ret ?_; (refine hR _ _ (.inl rfl) rfl ?_)
        rw [if_pos hc] at hR2
        rw [hR2]
        simp only [go_sem, simprocAttr, List.length_map, List.map_nil]
        rfl
      · rw [if_neg (by rw [hc]; simp)] at hR2
        obtain ⟨n, hn, hnl, hoa, hri, hel, hel2, _⟩ := haok (by simpa using hc) hlen hok
        obtain rfl : a = n := by omega
        obtain ⟨hs64, hp400⟩ := right_small hri
        rw [enc_len] at hel hel2
        have hro := room o.kind o.text.size o.parts.length (by omega) (by omega)
        have hrm1 : 1 ≤ roomN o.kind o.text.size o.parts.length := by unfold roomN; omega
        generalize roomN o.kind o.text.size o.parts.length = rm at *
        have hwa : IntKind.i64.wrap ((a : Int) + (rm : Int)) = ((a + rm : Nat) : Int) := by rw [Go.Ab.wrap_small (by omega) (by omega)]; rfl
        have hta : List.take acc.length (acc.map Obj.row) = acc.map Obj.row := List.take_of_length_le (by simp)
        have hfa : (acc.length + 1) * 64 ≤ 140737488355328 := by omega

        refine awp_skip ?_
        refine hK _ ?_; clear hK K
        (refine awp_reg_seq [0, 4, 5, 6] fun K hK => ?_; (repeat' ((refine al_r rfl fun K' hK' => ?_); (repeat (first | (simp only [go_sem, simprocAttr, List.length_map, hwa, hta, hfa, List.drop_zero]) | refine AAp.grow ?_)); ((first | refine hK' _ _ ?_ | refine ⟨?_, ?_, hK' _ _ ?_⟩) <;> clear hK' K' <;> (first | (show alist _ _ _ _ _ _; skip) | (simp; done))))); all_goals (refine al_nil ?_; (simp only [go_sem, simprocAttr, List.length_map, hwa, hta, hfa, List.drop_zero]); refine hK _ ?_; clear hK K))
        (refine awp_reg_end [0, 4, 5] fun K hK => ?_; (repeat' ((refine al_r rfl fun K' hK' => ?_); (repeat (simp only [go_sem, simprocAttr, List.length_map, hwa, hta, hfa, List.drop_zero])); (first | ((first | refine hK' _ _ ?_ | refine ⟨?_, hK' _ _ ?_⟩) <;> clear hK' K' <;> (first | (show alist _ _ _ _ _ _; skip) | (intro s hs; cases hs; done) | (simp; done))) | ((show AC _ _ (D.fn 51 _) _ _); refine acall_p (f := 51) (e := rfl) (hr := rfl) (k := hK' _ _ ?_) (hc := Try.call51) (h := hro); clear hK' K')))); all_goals (refine al_nil ?_; (simp only [go_sem, simprocAttr, List.length_map, hwa, hta, hfa, List.drop_zero]); refine hK _ ?_; clear hK K))
        refine ⟨h.length - (a + rm), by omega, [0, 4, 5], [2], by decide, by intro q hq; exact absurd hq (Nat.not_lt_zero q), a + rm, f', acc ++ [o], rfl, hel2, by simp; omega, by omega, hR2, ?_⟩
        simp only [go_sem, simprocAttr, List.length_map, hwa, hta, hfa, List.drop_zero, Obj.row]

    · have hnot : ¬ a < h.length := by simpa using hc
      have hR3 : R0 = (acc, 0) := by
        rw [hR1]
        cases f with
        | zero => rfl
        | succ f => show (if a < h.length then _ else _) = _; rw [if_neg hnot]
      have hta : List.take acc.length (acc.map Obj.row) = acc.map Obj.row := List.take_of_length_le (by simp)
      refine awp_exit ?_
      clear hK
      refine hK _ ?_; clear hK K
      (refine awp_reg_seq [2, 3] fun K hK => ?_; (repeat' ((refine al_r rfl fun K' hK' => ?_); (repeat (simp only [go_sem, simprocAttr, List.length_map])); ((refine hK' _ _ ?_) <;> clear hK' K'))); all_goals (refine al_nil ?_; (simp only [go_sem, simprocAttr, List.length_map]); refine hK _ ?_; clear hK K))
      refine awp_ret ?_; (refine hR _ _ (.inl rfl) rfl ?_)
      rw [hR3]
      simp only [go_sem, simprocAttr, List.length_map, hta]
end Go.Proofs.Ytagphggcdmjlpaa.P

/- Words; the closed fact that the statements on heaps ask for. -/
namespace Go.Proofs.Ytagphggcdmjlpaa.P
open Go.Ab Go.Proofs.Ytagphggcdmjlpaa.T


theorem small (n : Int) : ACallP Try.prog 80 [iD n] (bD (decide (n ≥ -1152921504606846976) && decide (n < 1152921504606846976))) := by
  refine acallp_fn [2] Try.func80 rfl rfl Try.ntmps80 (by simp) fun R hR => ?_
  (refine awp_reg_seq [0] fun K hK => ?_; (repeat' ((refine al_r rfl fun K' hK' => ?_); (repeat (simp only [go_sem, simprocAttr])); ((refine hK' _ _ ?_) <;> clear hK' K'))); all_goals (refine al_nil ?_; (simp only [go_sem, simprocAttr]); refine hK _ ?_; clear hK K))
  (refine awp_reg_seq [2] fun K hK => ?_; (repeat' (first | ((first | refine al_r rfl fun K' hK' => ?_ | refine al_t rfl rfl fun K' hK' => ?_); (repeat (simp only [go_sem, simprocAttr])); ((refine hK' _ _ ?_) <;> clear hK' K')) | refine al_e rfl rfl ?_ | ((fail_if_success (refine al_t rfl rfl fun K' hK' => ?_)); refine al_s _ rfl rfl rfl (fun hb => ?_) (fun hb => ?_)))); all_goals (refine al_nil ?_; (simp only [go_sem, simprocAttr]); refine hK _ ?_; clear hK K))
  all_goals (refine awp_ret ?_; (refine hR _ _ (.inl rfl) rfl ?_); simp only [go_sem, simprocAttr, *, Bool.and_true, Bool.and_false, Bool.true_and, Bool.false_and, Bool.or_true, Bool.true_or, Bool.or_false, Bool.false_or, Bool.not_true, Bool.not_false, Bool.false_eq_true])

/-- May a word have this tag and this number? -/
def fits (t n : Int) : Bool :=
  (t == 0 && n == 0) || (t == 2 && (n == 0 || n == 1)) || (t == 1 && (decide (n ≥ -1152921504606846976) && decide (n < 1152921504606846976))) ||
  ((t == 3 || t == 4) && decide (n ≥ 0) && decide (n < 1152921504606846976))

/-- The word. -/
def wordOf (t n : Int) : Int := Go.bits .or .u64 (IntKind.u64.wrap ((IntKind.u64.wrap n) * 8)) (IntKind.u64.wrap t)


/-- What Word answers. -/
def wordS (t n : Int) : Int × Int := if fits t n = true then (wordOf t n, 0) else if (decide (t < 0) || decide (t > 4)) = true then (0, 1) else (0, 2)

theorem word (t n : Int) : ACallP Try.prog 57 [iD t, iD n] (.tup [wD (wordS t n).1, iD (wordS t n).2]) := by
  refine acallp_fn [4, 5] Try.func57 rfl rfl Try.ntmps57 (by simp) fun R hR => ?_
  (refine awp_reg_seq [0, 1] fun K hK => ?_; (repeat' ((refine al_r rfl fun K' hK' => ?_); (repeat (simp only [go_sem, simprocAttr])); ((refine hK' _ _ ?_) <;> clear hK' K'))); all_goals (refine al_nil ?_; (simp only [go_sem, simprocAttr]); refine hK _ ?_; clear hK K))
  refine awp_seq_k fun K hK => ?_
  refine awp_block ?_
  refine awp_seq_k fun K hK => ?_
  have key : ∀ b, b = fits t n → K ⟨ofL [(0, iD t), (1, iD n), (6, bD b)], [], 0⟩ := by
    rintro b rfl
    refine hK _ ?_; clear hK K
    refine awp_if (fits t n) rfl (fun hc => ?_) (fun hc => ?_)
    · (refine awp_reg_seq [4, 5] fun K hK => ?_; (repeat' ((refine al_r rfl fun K' hK' => ?_); (repeat (simp only [go_sem, simprocAttr])); ((refine hK' _ _ ?_) <;> clear hK' K'))); all_goals (refine al_nil ?_; (simp only [go_sem, simprocAttr]); refine hK _ ?_; clear hK K))
      refine awp_ret ?_; (refine hR _ _ (.inl rfl) rfl ?_)
      simp [go_sem, wordS, hc, wordOf]
    · refine awp_reg_to [49] (k := ?_) (h := ?_) (s1 := ⟨ofL [(49, bD (decide (t < 0) || decide (t > 4)))], [], 0⟩); · ((repeat' (first | ((first | refine al_r rfl fun K' hK' => ?_ | refine al_t rfl rfl fun K' hK' => ?_); (repeat (simp only [go_sem, simprocAttr])); ((refine hK' _ _ ?_) <;> clear hK' K')) | refine al_e rfl rfl ?_ | ((fail_if_success (refine al_t rfl rfl fun K' hK' => ?_)); refine al_s _ rfl rfl rfl (fun hb => ?_) (fun hb => ?_)))); all_goals (refine al_nil ?_; simp only [go_sem, simprocAttr, *, Bool.and_true, Bool.and_false, Bool.true_and, Bool.false_and, Bool.or_true, Bool.true_or, Bool.or_false, Bool.false_or, Bool.not_true, Bool.not_false, Bool.false_eq_true]))
      refine awp_if (_) rfl (fun hc => ?_) (fun hc => ?_)
      · (refine awp_reg_seq [4, 5] fun K hK => ?_; (repeat' ((refine al_r rfl fun K' hK' => ?_); (repeat (simp only [go_sem, simprocAttr])); ((refine hK' _ _ ?_) <;> clear hK' K'))); all_goals (refine al_nil ?_; (simp only [go_sem, simprocAttr]); refine hK _ ?_; clear hK K))
        refine awp_ret ?_; (refine hR _ _ (.inl rfl) rfl ?_)
        simp only [wordS, *, go_sem, simprocAttr]
      · refine awp_skip ?_
        refine hK _ ?_; clear hK K
        (refine awp_reg_seq [4, 5] fun K hK => ?_; (repeat' ((refine al_r rfl fun K' hK' => ?_); (repeat (simp only [go_sem, simprocAttr])); ((refine hK' _ _ ?_) <;> clear hK' K'))); all_goals (refine al_nil ?_; (simp only [go_sem, simprocAttr]); refine hK _ ?_; clear hK K))
        refine awp_ret ?_; (refine hR _ _ (.inl rfl) rfl ?_)
        simp only [wordS, *, go_sem, simprocAttr]
  clear hK
  refine awp_reg_to [0, 1, 6] (k := ?_) (h := ?_) (s1 := ⟨ofL [(0, iD t), (1, iD n), (6, bD (t == 0 && n == 0))], [], 0⟩); · ((repeat' (first | ((first | refine al_r rfl fun K' hK' => ?_ | refine al_t rfl rfl fun K' hK' => ?_); (repeat (simp only [go_sem, simprocAttr])); ((refine hK' _ _ ?_) <;> clear hK' K')) | refine al_e rfl rfl ?_ | ((fail_if_success (refine al_t rfl rfl fun K' hK' => ?_)); refine al_s _ rfl rfl rfl (fun hb => ?_) (fun hb => ?_)))); all_goals (refine al_nil ?_; simp only [go_sem, simprocAttr, *, Bool.and_true, Bool.and_false, Bool.true_and, Bool.false_and, Bool.or_true, Bool.true_or, Bool.or_false, Bool.false_or, Bool.not_true, Bool.not_false, Bool.false_eq_true]))
  refine awp_if (_) rfl (fun hc => ?_) (fun hc => ?_)
  · refine awp_skip ?_
    refine key _ ?_
    simp [fits, hc]
  · refine awp_reg_to [0, 1, 6] (k := ?_) (h := ?_) (s1 := ⟨ofL [(0, iD t), (1, iD n), (6, bD (t == 2 && (n == 0 || n == 1)))], [], 0⟩); · ((repeat' (first | ((first | refine al_r rfl fun K' hK' => ?_ | refine al_t rfl rfl fun K' hK' => ?_); (repeat (simp only [go_sem, simprocAttr])); ((refine hK' _ _ ?_) <;> clear hK' K')) | refine al_e rfl rfl ?_ | refine al_u rfl rfl ?_ | ((fail_if_success (refine al_t rfl rfl fun K' hK' => ?_)); refine al_s _ rfl rfl rfl (fun hb => ?_) (fun hb => ?_)))); all_goals (refine al_nil ?_; simp only [go_sem, simprocAttr, *, Bool.and_true, Bool.and_false, Bool.true_and, Bool.false_and, Bool.or_true, Bool.true_or, Bool.or_false, Bool.false_or, Bool.not_true, Bool.not_false, Bool.false_eq_true]))
    refine awp_if (_) rfl (fun hc => ?_) (fun hc => ?_)
    · refine awp_skip ?_
      refine key _ ?_
      simp [fits, hc]
    · refine awp_reg_to [0, 1, 6] (k := ?_) (h := ?_) (s1 := ⟨ofL [(0, iD t), (1, iD n), (6, bD (t == 1 && (decide (n ≥ -1152921504606846976) && decide (n < 1152921504606846976))))], [], 0⟩); · ((repeat' (first | ((first | refine al_r rfl fun K' hK' => ?_ | refine al_t rfl rfl fun K' hK' => ?_); (repeat (simp only [go_sem, simprocAttr])); (first | ((refine hK' _ _ ?_) <;> clear hK' K') | ((show AC _ _ (D.fn 80 _) _ _); refine acall_p (f := 80) (e := rfl) (hr := rfl) (k := hK' _ _ ?_) (hc := Try.call80) (h := small _); clear hK' K'))) | refine al_e rfl rfl ?_ | ((fail_if_success (refine al_t rfl rfl fun K' hK' => ?_)); refine al_s _ rfl rfl rfl (fun hb => ?_) (fun hb => ?_)))); all_goals (refine al_nil ?_; simp only [go_sem, simprocAttr, *, Bool.and_true, Bool.and_false, Bool.true_and, Bool.false_and, Bool.or_true, Bool.true_or, Bool.or_false, Bool.false_or, Bool.not_true, Bool.not_false, Bool.false_eq_true]))
      refine awp_if (_) rfl (fun hc => ?_) (fun hc => ?_)
      · refine awp_skip ?_
        refine key _ ?_
        simp only [fits, hc, Bool.or_true, Bool.true_or]
      · refine awp_reg_end_to [0, 1, 6] (k := ?_) (h := ?_) (s1 := ⟨ofL [(0, iD t), (1, iD n), (6, bD ((t == 3 || t == 4) && decide (n ≥ 0) && decide (n < 1152921504606846976)))], [], 0⟩); · ((repeat' (first | ((first | refine al_r rfl fun K' hK' => ?_ | refine al_t rfl rfl fun K' hK' => ?_); (repeat (simp only [go_sem, simprocAttr])); ((refine hK' _ _ ?_) <;> clear hK' K')) | refine al_e rfl rfl ?_ | ((fail_if_success (refine al_t rfl rfl fun K' hK' => ?_)); refine al_s _ rfl rfl rfl (fun hb => ?_) (fun hb => ?_)))); all_goals (refine al_nil ?_; simp only [go_sem, simprocAttr, *, Bool.and_true, Bool.and_false, Bool.true_and, Bool.false_and, Bool.or_true, Bool.true_or, Bool.or_false, Bool.false_or, Bool.not_true, Bool.not_false, Bool.false_eq_true]))
        refine key _ ?_
        simp only [fits, *, Bool.or_false, Bool.false_or]


abbrev valD (k n : Int) (t : ByteArray) (a : List (List PV)) : D := .agg [iD k, iD n, .p (.lit (.string t)), .p (.sl a)]


theorem ofText (n : Int) (t : ByteArray) (a : List (List PV)) : ACallP Try.prog 56 [valD 4 n t a] (.tup [wD 0, bD false]) := by
  refine acallp_fn [2, 3] Try.func56 rfl rfl Try.ntmps56 (by simp) fun R hR => ?_
  (refine awp_reg_seq [1] fun K hK => ?_; (repeat' ((refine al_r rfl fun K' hK' => ?_); (repeat (simp only [go_sem, simprocAttr])); ((refine hK' _ _ ?_) <;> clear hK' K'))); all_goals (refine al_nil ?_; (simp only [go_sem, simprocAttr]); refine hK _ ?_; clear hK K))
  (refine awp_frz [1] [] (by decide) (by (simp; done)) ?_; simp only [go_sem, simprocAttr])
  (refine awp_reg_seq [1, 4] fun K hK => ?_; (repeat' ((refine al_r rfl fun K' hK' => ?_); (repeat (simp only [go_sem, simprocAttr])); ((refine hK' _ _ ?_) <;> clear hK' K'))); all_goals (refine al_nil ?_; (simp only [go_sem, simprocAttr]); refine hK _ ?_; clear hK K))
  refine awp_seq_k fun K hK => ?_
  (refine awp_reg_seq [1, 4, 8] fun K hK => ?_; (repeat' ((refine al_r rfl fun K' hK' => ?_); (repeat (simp only [go_sem, simprocAttr])); ((refine hK' _ _ ?_) <;> clear hK' K'))); all_goals (refine al_nil ?_; (simp only [go_sem, simprocAttr]); refine hK _ ?_; clear hK K))
  refine awp_block ?_
  (refine awp_reg_seq [1, 4, 8, 9] fun K hK => ?_; (repeat' ((refine al_r rfl fun K' hK' => ?_); (repeat (simp only [go_sem, simprocAttr])); ((refine hK' _ _ ?_) <;> clear hK' K'))); all_goals (refine al_nil ?_; (simp only [go_sem, simprocAttr]); refine hK _ ?_; clear hK K))
  refine awp_if (_) rfl (fun hc => ?_) (fun hc => ?_)
  · cases hc
  · (refine awp_reg_seq [1, 4, 8, 11] fun K hK => ?_; (repeat' ((refine al_r rfl fun K' hK' => ?_); (repeat (simp only [go_sem, simprocAttr])); ((refine hK' _ _ ?_) <;> clear hK' K'))); all_goals (refine al_nil ?_; (simp only [go_sem, simprocAttr]); refine hK _ ?_; clear hK K))
    refine awp_if (_) rfl (fun hc => ?_) (fun hc => ?_)
    · cases hc
    · (refine awp_reg_seq [1, 4, 8, 13] fun K hK => ?_; (repeat' ((refine al_r rfl fun K' hK' => ?_); (repeat (simp only [go_sem, simprocAttr])); ((refine hK' _ _ ?_) <;> clear hK' K'))); all_goals (refine al_nil ?_; (simp only [go_sem, simprocAttr]); refine hK _ ?_; clear hK K))
      refine awp_if (_) rfl (fun hc => ?_) (fun hc => ?_)
      · cases hc
      · (refine awp_reg_seq [1, 4, 15] fun K hK => ?_; (repeat' ((refine al_r rfl fun K' hK' => ?_); (repeat (simp only [go_sem, simprocAttr])); ((refine hK' _ _ ?_) <;> clear hK' K'))); all_goals (refine al_nil ?_; (simp only [go_sem, simprocAttr]); refine hK _ ?_; clear hK K))
        refine awp_if (_) rfl (fun hc => ?_) (fun hc => ?_)
        · cases hc
        · refine awp_skip ?_
          refine hK _ ?_; clear hK K
          refine awp_seq_k fun K hK => ?_
          (refine awp_reg_tov [1, 4, 29] [(29, bD true)] (h := ?_) (k := ?_); · ((repeat' (first | ((refine al_r rfl fun K' hK' => ?_); (repeat (simp only [go_sem, simprocAttr])); ((refine hK' _ _ ?_) <;> clear hK' K')) | refine al_e rfl rfl ?_)); all_goals (refine al_nil ?_; simp only [go_sem, simprocAttr, *, Bool.and_true, Bool.and_false, Bool.true_and, Bool.false_and, Bool.or_true, Bool.true_or, Bool.or_false, Bool.false_or, Bool.not_true, Bool.not_false, Bool.false_eq_true]))); intro K hK; (simp only [go_sem, simprocAttr]); refine hK _ ?_; clear hK K
          refine awp_if (_) rfl (fun hc => ?_) (fun hc => ?_)
          · (refine awp_reg_seq [2, 3] fun K hK => ?_; (repeat' ((refine al_r rfl fun K' hK' => ?_); (repeat (simp only [go_sem, simprocAttr])); ((refine hK' _ _ ?_) <;> clear hK' K'))); all_goals (refine al_nil ?_; (simp only [go_sem, simprocAttr]); refine hK _ ?_; clear hK K))
            all_goals (refine awp_ret ?_; (refine hR _ _ (.inl rfl) rfl ?_); (simp only [go_sem, simprocAttr, *, Bool.and_true, Bool.and_false, Bool.true_and, Bool.false_and, Bool.or_true, Bool.true_or, Bool.or_false, Bool.false_or, Bool.not_true, Bool.not_false, Bool.false_eq_true]; done))
          · cases hc

abbrev oA : Obj := ⟨0, 2, 0, ⟨#[97]⟩, []⟩
theorem putA : ACallP Try.prog 17 [words [], objD oA] (.tup [words [258, 97], iD 0, iD 0]) := by
  have h := put [] oA (by simp)
  rw [show putS [] oA = ([258, 97], 0, 0) by kernel_rfl] at h
  exact h
theorem wordA : ACallP Try.prog 57 [iD 4, iD 0] (.tup [wD 4, iD 0]) := by
  have h := word 4 0
  rw [show wordS 4 0 = (4, 0) by kernel_rfl] at h
  exact h


theorem buildA : ACallP Try.prog 23 [words [], valD 4 0 ⟨#[97]⟩ []] (.tup [words [258, 97], wD 4, iD 0]) := by
  refine acallp_fn [4, 5, 6] Try.func23 rfl rfl Try.ntmps23 (by simp) fun R hR => ?_
  (refine awp_reg_seq [0, 3] fun K hK => ?_; (repeat' ((refine al_r rfl fun K' hK' => ?_); (repeat (simp only [go_sem, simprocAttr])); ((refine hK' _ _ ?_) <;> clear hK' K'))); all_goals (refine al_nil ?_; (simp only [go_sem, simprocAttr]); refine hK _ ?_; clear hK K))
  (refine awp_frz [0, 3] [] (by decide) (by (simp; done)) ?_; simp only [go_sem, simprocAttr])
  refine awp_seq_k fun K hK => ?_
  (refine awp_reg_seq [0, 3, 7, 8] fun K hK => ?_; (repeat' ((refine al_r rfl fun K' hK' => ?_); (repeat (simp only [go_sem, simprocAttr])); (first | ((refine hK' _ _ ?_) <;> clear hK' K') | ((show AC _ _ (D.fn 56 _) _ _); refine acall_p (f := 56) (e := rfl) (hr := rfl) (k := hK' _ _ ?_) (hc := Try.call56) (h := (ofText _ _ _)); clear hK' K')))); all_goals (refine al_nil ?_; (simp only [go_sem, simprocAttr]); refine hK _ ?_; clear hK K))
  (refine awp_reg_seq [0, 3, 7, 24] fun K hK => ?_; (repeat' ((refine al_r rfl fun K' hK' => ?_); (repeat (simp only [go_sem, simprocAttr])); ((refine hK' _ _ ?_) <;> clear hK' K'))); all_goals (refine al_nil ?_; (simp only [go_sem, simprocAttr]); refine hK _ ?_; clear hK K))
  refine awp_if (_) rfl (fun hc => ?_) (fun hc => ?_)
  · cases hc
  · refine awp_skip ?_
    refine hK _ ?_; clear hK K
    (refine awp_reg_seq [0, 3, 9] fun K hK => ?_; (repeat' ((first | refine al_r rfl fun K' hK' => ?_ | refine al_d rfl fun K' hK' => ?_); (repeat (first | (simp only [go_sem, simprocAttr]) | refine AS.mk ?_)); ((first | refine hK' _ _ ?_ | refine ⟨?_, hK' _ _ ?_⟩) <;> clear hK' K' <;> (first | (show alist _ _ _ _ _ _; skip) | (simp; done))))); all_goals (refine al_nil ?_; (simp only [go_sem, simprocAttr]); refine hK _ ?_; clear hK K))
    refine awp_seq_k fun K hK => ?_
    (refine awp_reg_seq [0, 3, 9, 32] fun K hK => ?_; (repeat' ((refine al_r rfl fun K' hK' => ?_); (repeat (simp only [go_sem, simprocAttr])); ((refine hK' _ _ ?_) <;> clear hK' K'))); all_goals (refine al_nil ?_; (simp only [go_sem, simprocAttr]); refine hK _ ?_; clear hK K))
    refine awp_block ?_
    (refine awp_reg_seq [0, 3, 9, 32, 33] fun K hK => ?_; (repeat' ((refine al_r rfl fun K' hK' => ?_); (repeat (simp only [go_sem, simprocAttr])); ((refine hK' _ _ ?_) <;> clear hK' K'))); all_goals (refine al_nil ?_; (simp only [go_sem, simprocAttr]); refine hK _ ?_; clear hK K))
    refine awp_if (_) rfl (fun hc => ?_) (fun hc => ?_)
    · cases hc
    · (refine awp_reg_seq [0, 3, 9, 32, 39] fun K hK => ?_; (repeat' ((refine al_r rfl fun K' hK' => ?_); (repeat (simp only [go_sem, simprocAttr])); ((refine hK' _ _ ?_) <;> clear hK' K'))); all_goals (refine al_nil ?_; (simp only [go_sem, simprocAttr]); refine hK _ ?_; clear hK K))
      refine awp_if (_) rfl (fun hc => ?_) (fun hc => ?_)
      · (refine awp_reg_end [0, 3, 9] fun K hK => ?_; (repeat' ((first | refine al_r rfl fun K' hK' => ?_ | refine al_d rfl fun K' hK' => ?_); (repeat (first | (simp only [go_sem, simprocAttr]) | refine AS.mk ?_)); ((first | refine hK' _ _ ?_ | refine ⟨?_, hK' _ _ ?_⟩) <;> clear hK' K' <;> (first | (show alist _ _ _ _ _ _; skip) | (simp; done))))); all_goals (refine al_nil ?_; (simp only [go_sem, simprocAttr]); refine hK _ ?_; clear hK K))
        refine hK _ ?_; clear hK K
        refine awp_seq_k fun K hK => ?_
        (refine awp_reg_seq [0, 3, 9, 61] fun K hK => ?_; (repeat' (first | ((refine al_r rfl fun K' hK' => ?_); (repeat (simp only [go_sem, simprocAttr])); ((refine hK' _ _ ?_) <;> clear hK' K')) | refine al_e rfl rfl ?_)); all_goals (refine al_nil ?_; (simp only [go_sem, simprocAttr]); refine hK _ ?_; clear hK K))
        refine awp_if (_) rfl (fun hc => ?_) (fun hc => ?_)
        · cases hc
        · refine awp_skip ?_
          refine hK _ ?_; clear hK K
          refine awp_seq_k fun K hK => ?_
          (refine awp_reg_seq [0, 9, 63, 64, 65] fun K hK => ?_; (repeat' ((refine al_r rfl fun K' hK' => ?_); (repeat (simp only [go_sem, simprocAttr])); ((first | refine hK' _ _ ?_ | refine ⟨?_, hK' _ _ ?_⟩) <;> clear hK' K' <;> (first | (show alist _ _ _ _ _ _; skip) | (intro s hs; cases hs; done))))); all_goals (refine al_nil ?_; (simp only [go_sem, simprocAttr]); refine hK _ ?_; clear hK K))
          refine awp_block ?_
          -- loop 0 head [0, 9, 63, 64, 65]
          refine awp_loop (fun m s => m = 0 ∧ s = ⟨ofL [(0, words []), (9, .ptr 0 0 0), (63, .p (.sl [])), (64, iD 0), (65, iD 0)], [.box [iD 0, iD 2, iD 0, .p (.lit (.string ⟨#[97]⟩)), .nil]], 0⟩) ⟨_, rfl, rfl⟩ ?_
          rintro m s ⟨hm, rfl⟩
          (refine awp_reg_seq [0, 9, 63, 64, 65, 66] fun K hK => ?_; (repeat' ((refine al_r rfl fun K' hK' => ?_); (repeat (simp only [go_sem, simprocAttr])); ((refine hK' _ _ ?_) <;> clear hK' K'))); all_goals (refine al_nil ?_; (simp only [go_sem, simprocAttr]); refine hK _ ?_; clear hK K))
          refine awp_seq_k fun K hK => ?_
          refine awp_if (_) rfl (fun hc => ?_) (fun hc => ?_)
          · cases hc
          · refine awp_exit ?_
            clear hK
            refine hK _ ?_; clear hK K
            (refine awp_frz [0, 9] [] (by decide) (by (simp; done)) ?_; simp only [go_sem, simprocAttr])
            (refine awp_reg_seq [15, 16, 17] fun K hK => ?_; (repeat' ((refine al_r rfl fun K' hK' => ?_); (repeat (simp only [go_sem, simprocAttr])); (first | ((refine hK' _ _ ?_) <;> clear hK' K') | ((show AC _ _ (D.fn 17 _) _ _); refine acall_p (f := 17) (e := rfl) (hr := rfl) (k := hK' _ _ ?_) (hc := Try.call17) (h := putA); clear hK' K')))); all_goals (refine al_nil ?_; (simp only [go_sem, simprocAttr]); refine hK _ ?_; clear hK K))
            refine awp_seq_k fun K hK => ?_
            (refine awp_reg_seq [15, 16, 17, 95] fun K hK => ?_; (repeat' ((refine al_r rfl fun K' hK' => ?_); (repeat (simp only [go_sem, simprocAttr])); ((refine hK' _ _ ?_) <;> clear hK' K'))); all_goals (refine al_nil ?_; (simp only [go_sem, simprocAttr]); refine hK _ ?_; clear hK K))
            refine awp_if (_) rfl (fun hc => ?_) (fun hc => ?_)
            · cases hc
            · refine awp_skip ?_
              refine hK _ ?_; clear hK K
              (refine awp_reg_seq [15, 17, 18] fun K hK => ?_; (repeat' ((refine al_r rfl fun K' hK' => ?_); (repeat (simp only [go_sem, simprocAttr])); (first | ((refine hK' _ _ ?_) <;> clear hK' K') | ((show AC _ _ (D.fn 57 _) _ _); refine acall_p (f := 57) (e := rfl) (hr := rfl) (k := hK' _ _ ?_) (hc := Try.call57) (h := wordA); clear hK' K')))); all_goals (refine al_nil ?_; (simp only [go_sem, simprocAttr]); refine hK _ ?_; clear hK K))
              (refine awp_reg_seq [4, 5, 6] fun K hK => ?_; (repeat' ((refine al_r rfl fun K' hK' => ?_); (repeat (simp only [go_sem, simprocAttr])); ((refine hK' _ _ ?_) <;> clear hK' K'))); all_goals (refine al_nil ?_; (simp only [go_sem, simprocAttr]); refine hK _ ?_; clear hK K))
              all_goals (refine awp_ret ?_; (refine hR _ _ (.inl rfl) rfl ?_); (simp only [go_sem, simprocAttr, *, Bool.and_true, Bool.and_false, Bool.true_and, Bool.false_and, Bool.or_true, Bool.true_or, Bool.or_false, Bool.false_or, Bool.not_true, Bool.not_false, Bool.false_eq_true]; done))
      · cases hc

theorem buildB : ACallP Try.prog 23 [.nil, .agg [iD 4, iD 0, .p (.lit (.string ⟨#[97]⟩)), .nil]] (.tup [words [258, 97], wD 4, iD 0]) := ACallP.soft buildA rfl


theorem heaps : ACallP Try.prog 16 [] (bD true) := by
  refine acallp_fn [0] Try.func16 rfl rfl Try.ntmps16 (by simp) fun R hR => ?_
  (refine awp_reg_seq [] fun K hK => ?_; (repeat' ((refine al_r rfl fun K' hK' => ?_); (repeat (simp only [go_sem, simprocAttr, beq_self_eq_true])); ((refine hK' _ _ ?_) <;> clear hK' K'))); all_goals (refine al_nil ?_; (simp only [go_sem, simprocAttr, beq_self_eq_true]); refine hK _ ?_; clear hK K))
  (refine awp_reg_seq [1, 2, 3] fun K hK => ?_; (repeat' ((refine al_r rfl fun K' hK' => ?_); (repeat (simp only [go_sem, simprocAttr, beq_self_eq_true])); (first | ((refine hK' _ _ ?_) <;> clear hK' K') | ((show AC _ _ (D.fn 23 _) _ _); refine acall_p (f := 23) (e := rfl) (hr := rfl) (k := hK' _ _ ?_) (hc := Try.call23) (h := buildB); clear hK' K')))); all_goals (refine al_nil ?_; (simp only [go_sem, simprocAttr, beq_self_eq_true]); refine hK _ ?_; clear hK K))
  (refine awp_reg_tov [0] [(0, bD true)] (h := ?_) (k := ?_); · ((repeat' ((first | refine al_r rfl fun K' hK' => ?_ | refine al_t rfl rfl fun K' hK' => ?_); (repeat (simp only [go_sem, simprocAttr, beq_self_eq_true])); ((first | refine hK' _ _ ?_ | refine ⟨?_, hK' _ _ ?_⟩) <;> clear hK' K' <;> (first | (show alist _ _ _ _ _ _; skip) | (intro s hs; cases hs; done))))); all_goals (refine al_nil ?_; simp only [go_sem, simprocAttr, beq_self_eq_true, *, Bool.and_true, Bool.and_false, Bool.true_and, Bool.false_and, Bool.or_true, Bool.true_or, Bool.or_false, Bool.false_or, Bool.not_true, Bool.not_false, Bool.false_eq_true]))); intro K hK; (simp only [go_sem, simprocAttr, beq_self_eq_true]); refine hK _ ?_; clear hK K
  all_goals (refine awp_ret ?_; (refine hR _ _ (.inl rfl) rfl ?_); (simp only [go_sem, simprocAttr, beq_self_eq_true, *, Bool.and_true, Bool.and_false, Bool.true_and, Bool.false_and, Bool.or_true, Bool.true_or, Bool.or_false, Bool.false_or, Bool.not_true, Bool.not_false, Bool.false_eq_true]; done))
end Go.Proofs.Ytagphggcdmjlpaa.P

/- What the function of the statement HeapAll answers. -/
namespace Go.Proofs.Ytagphggcdmjlpaa.P
open Go.Ab Go.Proofs.Ytagphggcdmjlpaa.T

/-- Objects that lie one behind the other in a heap, from a place on to its end. -/
def Chain (h : List Int) : Nat → List Obj → Prop
  | a, [] => a = h.length
  | a, o :: l => o.at_ = a ∧ rightS o = true ∧ encW o = (h.drop a).take (encW o).length ∧ a + (encW o).length ≤ h.length ∧ Chain h (a + (encW o).length) l

theorem objF_chain {h : List Int} (hlen : h.length ≤ maxLen) (hok : ∀ w, w ∈ h → WordOk w) : ∀ (f a : Nat) (acc l : List Obj), h.length - a < f → a ≤ h.length → objF h f a acc = (l, 0) → ∃ l', l = acc ++ l' ∧ Chain h a l'
  | 0, a, acc, l, hf, _, _ => by omega
  | f + 1, a, acc, l, hf, ha, h1 => by
    unfold objF at h1
    by_cases hlt : a < h.length
    · rw [if_pos hlt] at h1
      by_cases he : ((atS h a).2 != 0) = true
      · rw [if_pos he] at h1; cases h1
      · rw [if_neg he] at h1
        obtain ⟨n, hn, hnl, hoa, hri, h4, h5, h6⟩ := at_ok (by simpa using he) hlen hok
        obtain rfl : a = n := by omega
        have hel := enc_len (atS h a).1
        rw [← hel] at h1
        have hpos : 1 ≤ (encW (atS h a).1).length := by simp [encW]
        obtain ⟨l', hl, hc⟩ := objF_chain hlen hok f _ _ l (by omega) h5 h1
        exact ⟨(atS h a).1 :: l', by rw [hl]; simp, hoa, hri, h6, h5, hc⟩
    · rw [if_neg hlt] at h1
      cases h1
      exact ⟨[], by simp, by show a = h.length; omega⟩

theorem closed : closedT Try.prog [23, 34] = true := by kernel_rfl
theorem word_rows {f : Nat} : ∀ (rows : List (List PV)), (∀ r, r ∈ rows → r.length = Try.prog.cellsOf 34 ∧ shapeOk Try.prog f 34 r) → ∃ ls : List Int, rows = ls.map wrow ∧ ∀ w, w ∈ ls → WordOk w
  | [], _ => ⟨[], rfl, fun w hw => by cases hw⟩
  | r :: rows, h => by
    obtain ⟨n, rfl, hn⟩ := shape_int Try.underlying34 (h r List.mem_cons_self).2
    obtain ⟨ls, rfl, hls⟩ := word_rows rows fun r hr => h r (List.mem_cons_of_mem _ hr)
    refine ⟨n :: ls, rfl, fun w hw => ?_⟩
    rcases List.mem_cons.1 hw with rfl | hw
    · simp [Lit.wf, IntKind.min, IntKind.max, IntKind.signed, IntKind.bits] at hn
      exact ⟨by omega, by omega⟩
    · exact hls w hw
theorem sh23 {f : Nat} {xs : List PV} (h : shapeOk Try.prog f 23 xs) : ∃ ls : List Int, xs = [.sl (ls.map wrow)] ∧ ls.length ≤ maxLen ∧ ∀ w, w ∈ ls → WordOk w := by
  obtain ⟨n, rows, _, e0, hmax, _, hr⟩ := shape_slice Try.underlying23 h
  obtain ⟨ls, rfl, hls⟩ := word_rows rows hr
  exact ⟨ls, e0, by simpa using hmax, hls⟩
end Go.Proofs.Ytagphggcdmjlpaa.P

/- Objects are read as they were written: plain facts. -/
namespace Go.Proofs.Ytagphggcdmjlpaa.P
open Go.Ab

theorem u64_small {n : Nat} (h : n < 18446744073709551616) : IntKind.u64.wrap (n : Int) = (n : Int) := by
  rw [IntKind.wrap_u64]; omega

theorem or_add {a b i : Nat} (h : b < 2 ^ i) : b ||| a * 2 ^ i = b + a * 2 ^ i := by
  have := Nat.shiftLeft_add_eq_or_of_lt h a
  rw [Nat.shiftLeft_eq] at this
  rw [Nat.or_comm, ← this]; omega

theorem right_kind {o : Obj} (h : rightS o = true) : ∃ k : Nat, o.kind = k ∧ 1 ≤ k ∧ k ≤ 5 := by
  unfold rightS at h
  simp only [Bool.and_eq_true, Bool.not_eq_true', Bool.or_eq_false_iff, decide_eq_false_iff_not] at h
  exact ⟨o.kind.toNat, by omega, by omega, by omega⟩

theorem head_val {o : Obj} (h : rightS o = true) {k : Nat} (hk : o.kind = k) (hk5 : k ≤ 5) : headS o = ((k + o.text.size * 256 + o.parts.length * 1048576 : Nat) : Int) := by
  obtain ⟨hs, hp⟩ := right_small h
  have e8 : (2 : Int) ^ min 8 64 = ((256 : Nat) : Int) := by decide
  have e20 : (2 : Int) ^ min 20 64 = ((1048576 : Nat) : Int) := by decide
  unfold headS
  rw [hk, e8, e20, u64_small (by omega), u64_small (by omega), u64_small (by omega), ← Int.natCast_mul, ← Int.natCast_mul, u64_small (by omega), u64_small (by omega)]
  rw [bits_or_u64_nat _ _ (by omega) (by omega)]
  have h1 := or_add (a := o.text.size) (b := k) (i := 8) (by omega)
  rw [show (2 : Nat) ^ 8 = 256 from rfl] at h1
  rw [h1, bits_or_u64_nat _ _ (by omega) (by omega)]
  have h2 := or_add (a := o.parts.length) (b := k + o.text.size * 256) (i := 20) (by omega)
  rw [show (2 : Nat) ^ 20 = 1048576 from rfl] at h2
  rw [h2]

theorem fdiv_nat (n : Nat) (k : Nat) : ((n : Nat) : Int).fdiv ((k : Nat) : Int) = ((n / k : Nat) : Int) := by
  rw [Int.fdiv_eq_ediv_of_nonneg _ (Int.natCast_nonneg k)]; rfl

theorem head_dec {o : Obj} (h : rightS o = true) : kN (headS o) = o.kind ∧ tN (headS o) = o.text.size ∧ pN (headS o) = o.parts.length ∧ (headS o).fdiv (2 ^ min 32 64) = 0 := by
  obtain ⟨k, hk, _, hk5⟩ := right_kind h
  obtain ⟨hs, hp⟩ := right_small h
  have e8 : (2 : Int) ^ min 8 64 = ((256 : Nat) : Int) := by decide
  have e20 : (2 : Int) ^ min 20 64 = ((1048576 : Nat) : Int) := by decide
  have e32 : (2 : Int) ^ min 32 64 = ((4294967296 : Nat) : Int) := by decide
  rw [head_val h hk hk5]
  have a255 : ∀ n : Nat, n &&& 255 = n % 256 := fun n => Nat.and_two_pow_sub_one_eq_mod n 8
  have a4095 : ∀ n : Nat, n &&& 4095 = n % 4096 := fun n => Nat.and_two_pow_sub_one_eq_mod n 12
  unfold kN tN pN
  rw [e8, e20, e32, fdiv_nat, fdiv_nat, fdiv_nat]
  have b1 := bits_and_u64_nat (k + o.text.size * 256 + o.parts.length * 1048576) 255 (by omega) (by omega)
  have b2 := bits_and_u64_nat ((k + o.text.size * 256 + o.parts.length * 1048576) / 256) 4095 (by omega) (by omega)
  have b3 := bits_and_u64_nat ((k + o.text.size * 256 + o.parts.length * 1048576) / 1048576) 4095 (by omega) (by omega)
  refine ⟨?_, ?_, ?_, ?_⟩
  · show IntKind.i64.wrap (bits .and .u64 _ ((255 : Nat) : Int)) = _
    rw [b1, a255, Go.Ab.wrap_small (by omega) (by omega), hk]; omega
  · show IntKind.i64.wrap (bits .and .u64 _ ((4095 : Nat) : Int)) = _
    rw [b2, a4095, Go.Ab.wrap_small (by omega) (by omega)]; omega
  · show IntKind.i64.wrap (bits .and .u64 _ ((4095 : Nat) : Int)) = _
    rw [b3, a4095, Go.Ab.wrap_small (by omega) (by omega)]; omega
  · omega

/-- The value of a byte of a text; none is nought. -/
def byteV (s : ByteArray) (i : Nat) : Nat := match s[i]? with | some b => b.toNat | none => 0
theorem byteV_lt (s : ByteArray) (i : Nat) : byteV s i < 256 := by
  unfold byteV
  split
  · exact UInt8.toNat_lt _
  · decide

def sumF (s : ByteArray) (i : Nat) : Nat → Nat → Nat
  | 0, _ => 0
  | m + 1, k => byteV s (i + k) * 2 ^ (8 * k) + sumF s i m (k + 1)

theorem orStep_val (s : ByteArray) (i : Nat) {k w : Nat} (hk : k < 8) (hw : w < 2 ^ (8 * k)) : orStep s i k (w : Int) = ((w + byteV s (i + k) * 2 ^ (8 * k) : Nat) : Int) ∧ w + byteV s (i + k) * 2 ^ (8 * k) < 2 ^ (8 * (k + 1)) := by
  have hb := byteV_lt s (i + k)
  have hpow : 2 ^ (8 * (k + 1)) = 256 * 2 ^ (8 * k) := by rw [Nat.mul_add, Nat.mul_one, Nat.pow_add, Nat.mul_comm]
  have hle : (2 : Nat) ^ (8 * (k + 1)) ≤ 2 ^ 64 := Nat.pow_le_pow_right (by decide) (by omega)
  have hprod : byteV s (i + k) * 2 ^ (8 * k) ≤ 255 * 2 ^ (8 * k) := Nat.mul_le_mul_right _ (by omega)
  have hlt : w + byteV s (i + k) * 2 ^ (8 * k) < 2 ^ (8 * (k + 1)) := by rw [hpow]; omega
  refine ⟨?_, hlt⟩
  have h64 : (2 : Nat) ^ 64 = 18446744073709551616 := rfl
  unfold orStep
  unfold byteV at hlt ⊢
  cases hsb : s[i + k]? with
  | none => simp
  | some b =>
    rw [hsb] at hlt
    simp only at hlt ⊢
    have hbl := UInt8.toNat_lt b
    have hmin : min (8 * k) 64 = 8 * k := by omega
    rw [hmin, u64_small (n := b.toNat) (by omega)]
    have hcast : ((b.toNat : Nat) : Int) * 2 ^ (8 * k) = ((b.toNat * 2 ^ (8 * k) : Nat) : Int) := by
      rw [Int.natCast_mul, Int.natCast_pow]; rfl
    rw [hcast, u64_small (by omega), bits_or_u64_nat _ _ (by omega) (by omega), or_add hw]

theorem orF_val (s : ByteArray) (i : Nat) : ∀ (m k w : Nat), k + m ≤ 8 → w < 2 ^ (8 * k) → orF s i m k (w : Int) = ((w + sumF s i m k : Nat) : Int)
  | 0, _, _, _, _ => rfl
  | m + 1, k, w, hk, hw => by
    obtain ⟨h1, h2⟩ := orStep_val s i (k := k) (by omega) hw
    show orF s i m (k + 1) (orStep s i k w) = _
    rw [h1, orF_val s i m (k + 1) _ (by omega) h2]
    show ((_ + _ : Nat) : Int) = ((w + (byteV s (i + k) * 2 ^ (8 * k) + sumF s i m (k + 1)) : Nat) : Int)
    rw [Nat.add_assoc]

theorem word_val (s : ByteArray) (i : Nat) : wordAt s i = ((sumF s i 8 0 : Nat) : Int) := by
  have := orF_val s i 8 0 0 (by omega) (by decide)
  rw [Nat.zero_add] at this
  exact this

theorem byte_dec (s : ByteArray) (i : Nat) {j : Nat} (hj : j < 8) : IntKind.u8.wrap ((wordAt s i).fdiv (2 ^ min (8 * j) 64)) = (byteV s (i + j) : Int) := by
  have hmin : min (8 * j) 64 = 8 * j := by omega
  have hp : (2 : Int) ^ (8 * j) = ((2 ^ (8 * j) : Nat) : Int) := by rw [Int.natCast_pow]; rfl
  rw [word_val, hmin, hp, fdiv_nat]
  have b0 := byteV_lt s (i + 0)
  have b1 := byteV_lt s (i + 1)
  have b2 := byteV_lt s (i + 2)
  have b3 := byteV_lt s (i + 3)
  have b4 := byteV_lt s (i + 4)
  have b5 := byteV_lt s (i + 5)
  have b6 := byteV_lt s (i + 6)
  have b7 := byteV_lt s (i + 7)
  have hs : sumF s i 8 0 = byteV s (i + 0) + byteV s (i + 1) * 256 + byteV s (i + 2) * 65536 + byteV s (i + 3) * 16777216 + byteV s (i + 4) * 4294967296 + byteV s (i + 5) * 1099511627776 + byteV s (i + 6) * 281474976710656 + byteV s (i + 7) * 72057594037927936 := by
    show byteV s (i + 0) * 2 ^ 0 + (byteV s (i + 1) * 2 ^ 8 + (byteV s (i + 2) * 2 ^ 16 + (byteV s (i + 3) * 2 ^ 24 + (byteV s (i + 4) * 2 ^ 32 + (byteV s (i + 5) * 2 ^ 40 + (byteV s (i + 6) * 2 ^ 48 + (byteV s (i + 7) * 2 ^ 56 + 0))))))) = _
    omega
  rw [hs]
  have hw : ∀ n : Nat, IntKind.u8.wrap (n : Int) = ((n % 256 : Nat) : Int) := fun n => by
    simp [IntKind.wrap, IntKind.bits, IntKind.signed]
  rw [hw]
  congr 1
  match j, hj with
  | 0, _ => simp only [Nat.mul_zero, Nat.pow_zero, Nat.div_one]; omega
  | 1, _ => rw [show (2 : Nat) ^ (8 * 1) = 256 from rfl]; omega
  | 2, _ => rw [show (2 : Nat) ^ (8 * 2) = 65536 from rfl]; omega
  | 3, _ => rw [show (2 : Nat) ^ (8 * 3) = 16777216 from rfl]; omega
  | 4, _ => rw [show (2 : Nat) ^ (8 * 4) = 4294967296 from rfl]; omega
  | 5, _ => rw [show (2 : Nat) ^ (8 * 5) = 1099511627776 from rfl]; omega
  | 6, _ => rw [show (2 : Nat) ^ (8 * 6) = 281474976710656 from rfl]; omega
  | 7, _ => rw [show (2 : Nat) ^ (8 * 7) = 72057594037927936 from rfl]; omega

theorem textF_get (s : ByteArray) : ∀ (m i q : Nat), q < m → (textF s m i)[q]? = some (wordAt s (i + 8 * q))
  | m + 1, i, 0, _ => rfl
  | m + 1, i, q + 1, h => by
    show (wordAt s i :: textF s m (i + 8))[q + 1]? = _
    rw [List.getElem?_cons_succ, textF_get s m (i + 8) q (by omega)]
    congr 2; omega

theorem bytes_dec (pre post : List Int) (s : ByteArray) : bytesN (pre ++ (textW s ++ post)) pre.length s.size = (List.range s.size).map fun i => (byteV s i : Int) := by
  unfold bytesN
  refine List.map_congr_left fun i hi => ?_
  have hi := List.mem_range.1 hi
  unfold byteN
  have hq : i / 8 < (s.size + 7) / 8 := by omega
  have h1 : (pre ++ (textW s ++ post)).getD (pre.length + i / 8) 0 = wordAt s (8 * (i / 8)) := by
    unfold List.getD
    rw [List.getElem?_append_right (by omega), Nat.add_sub_cancel_left, List.getElem?_append_left (by unfold textW; rw [textF_len]; exact hq)]
    unfold textW
    rw [textF_get s _ 0 _ hq, Nat.zero_add]; rfl
  rw [h1, byte_dec s _ (Nat.mod_lt _ (by decide))]
  congr 2; omega

theorem pushB_bytes (s : ByteArray) : pushB ((List.range s.size).map fun i => (byteV s i : Int)) = s := by
  unfold pushB
  rw [foldl_push_bytes]
  obtain ⟨data⟩ := s
  have hd : ((List.range (ByteArray.mk data).size).map fun i => (byteV ⟨data⟩ i : Int)).map (fun n => UInt8.ofNat n.toNat) = data.toList := by
    apply List.ext_getElem?
    intro i
    rw [List.getElem?_map, List.getElem?_map]
    by_cases h : i < data.size
    · rw [List.getElem?_range (show i < (ByteArray.mk data).size from h), Array.getElem?_toList, Array.getElem?_eq_getElem h]
      have : (ByteArray.mk data)[i]? = some data[i] := by
        rw [getElem?_pos (ByteArray.mk data) i h]; rfl
      simp [byteV, this]
    · rw [List.getElem?_eq_none (show (List.range (ByteArray.mk data).size).length ≤ i by rw [List.length_range]; exact Nat.le_of_not_lt h), Array.getElem?_toList, Array.getElem?_eq_none (by omega)]
      rfl
  rw [hd]
  show (ByteArray.mk (#[] ++ data.toList.toArray)) = _
  simp
end Go.Proofs.Ytagphggcdmjlpaa.P

/- A heap of objects: what At and Objects answer. -/
namespace Go.Proofs.Ytagphggcdmjlpaa.P
open Go.Ab

abbrev NumOk (n : Int) : Prop := -9223372036854775808 ≤ n ∧ n ≤ 9223372036854775807

/-- An object at another place. -/
def Obj.to (o : Obj) (a : Nat) : Obj := ⟨a, o.kind, o.num, o.text, o.parts⟩

theorem put_nil {o : Obj} (h : rightS o = true) : putS [] o = (encW o, 0, 0) := by
  obtain ⟨h1, h2⟩ := right_small h
  have hr : roomN o.kind o.text.size o.parts.length ≤ 500 := by
    unfold roomN
    split <;> omega
  unfold putS
  rw [h, if_neg (by simp), if_neg (by simp; omega)]
  rfl

theorem num_back {n : Int} (h : NumOk n) : IntKind.i64.wrap (IntKind.u64.wrap n) = n := by
  rw [IntKind.wrap_u64]
  simp only [IntKind.wrap, IntKind.bits, IntKind.signed]
  simp
  obtain ⟨h1, h2⟩ := h
  omega

theorem obj_dec (pre1 post : List Int) (o : Obj) (n : Nat) (k num : Int) : objO (pre1 ++ (textW o.text ++ (o.parts ++ post))) n k num o.text.size o.parts.length pre1.length = ⟨n, k, num, o.text, o.parts⟩ := by
  unfold objO
  rw [bytes_dec, pushB_bytes]
  have : List.drop (pre1.length + (o.text.size + 7) / 8) (pre1 ++ (textW o.text ++ (o.parts ++ post))) = o.parts ++ post := by
    rw [← List.drop_drop, List.drop_left]
    have hl : (o.text.size + 7) / 8 = (textW o.text).length := by unfold textW; rw [textF_len]
    rw [hl, List.drop_left]
  rw [this, List.take_left]

theorem at_enc (pre post : List Int) (o : Obj) (hr : rightS o = true) (hn : NumOk o.num) : atS (pre ++ (encW o ++ post)) pre.length = (o.to pre.length, 0) := by
  obtain ⟨d1, d2, d3, d4⟩ := head_dec hr
  have hel := enc_len o
  have hput := put_nil (o := o.to pre.length) hr
  have henc : encW (o.to pre.length) = encW o := rfl
  rw [henc] at hput
  have hlen : (pre ++ (encW o ++ post)).length = pre.length + (encW o).length + post.length := by simp; omega
  have hpos : 1 ≤ (encW o).length := by simp [encW]
  have hget : (pre ++ (encW o ++ post))[pre.length]? = some (headS o) := by
    rw [List.getElem?_append_right (Nat.le_refl _), Nat.sub_self]; rfl
  have hcut : ∀ m, m = (encW o).length → ((pre ++ (encW o ++ post)).drop pre.length).take m = encW o := fun m hm => by
    rw [List.drop_left, hm, List.take_left]
  have hat : ∀ m, m = (encW o).length → atO (pre ++ (encW o ++ post)) pre.length (o.to pre.length) m = (o.to pre.length, 0) := fun m hm => by
    unfold atO
    rw [hcut m hm, hput, (listEq_iff eqI_iff).2 rfl]
    rfl
  unfold atS
  rw [if_neg (by simp; omega), Int.toNat_natCast, hget]
  simp only
  rw [d1, d2, d3, d4, Int.toNat_natCast, Int.toNat_natCast, ← hel, if_neg (by simp; omega)]
  have hroom := hel
  unfold roomN at hroom
  unfold atR
  by_cases hk : numK o.kind = true
  · rw [if_pos hk]
    rw [if_pos hk] at hroom
    have hnw : numW o = [IntKind.u64.wrap o.num] := by unfold numW; rw [if_pos hk]
    have hsh : pre ++ (encW o ++ post) = (pre ++ [headS o, IntKind.u64.wrap o.num]) ++ (textW o.text ++ (o.parts ++ post)) := by
      unfold encW; rw [hnw]; simp
    have hg1 : (pre ++ (encW o ++ post)).getD (pre.length + 1) 0 = IntKind.u64.wrap o.num := by
      unfold List.getD encW
      rw [hnw, List.getElem?_append_right (by omega), Nat.add_sub_cancel_left]; rfl
    have hl2 : pre.length + 2 = (pre ++ [headS o, IntKind.u64.wrap o.num]).length := by simp
    have hob : objO (pre ++ (encW o ++ post)) pre.length o.kind (IntKind.i64.wrap ((pre ++ (encW o ++ post)).getD (pre.length + 1) 0)) o.text.size o.parts.length (pre.length + 2) = o.to pre.length := by
      rw [hg1, num_back hn, hsh, hl2, obj_dec]; rfl
    rw [hob]
    exact hat _ (by omega)
  · rw [if_neg hk]
    rw [if_neg hk] at hroom
    have hnw : numW o = [] := by unfold numW; rw [if_neg hk]
    have hn0 : o.num = 0 := by
      unfold rightS at hr
      unfold numK at hk
      simp only [Bool.or_eq_true, beq_iff_eq, not_or] at hk
      simp only [Bool.and_eq_true, Bool.not_eq_true', Bool.and_eq_false_imp] at hr
      have := hr.2.2.2.1 (by simp [hk.1, hk.2])
      simpa using this
    have hsh : pre ++ (encW o ++ post) = (pre ++ [headS o]) ++ (textW o.text ++ (o.parts ++ post)) := by
      unfold encW; rw [hnw]; simp
    have hl2 : pre.length + 1 = (pre ++ [headS o]).length := by simp
    have hob : objO (pre ++ (encW o ++ post)) pre.length o.kind 0 o.text.size o.parts.length (pre.length + 1) = o.to pre.length := by
      rw [hsh, hl2, obj_dec, ← hn0]; rfl
    rw [hob]
    exact hat _ (by omega)

/-- The words of objects, one behind the other; and the objects at their places. -/
def flat : List Obj → List Int
  | [] => []
  | o :: l => encW o ++ flat l
def place : Nat → List Obj → List Obj
  | _, [] => []
  | a, o :: l => o.to a :: place (a + (encW o).length) l

theorem place_len : ∀ (a : Nat) (l : List Obj), (place a l).length = l.length
  | _, [] => rfl
  | a, o :: l => by rw [place, List.length_cons, place_len, List.length_cons]

theorem flat_append (l m : List Obj) : flat (l ++ m) = flat l ++ flat m := by
  induction l with
  | nil => rfl
  | cons o l ih => show encW o ++ flat (l ++ m) = _; rw [ih, ← List.append_assoc]; rfl

theorem objF_flat : ∀ (l : List Obj) (pre : List Int) (f : Nat) (acc : List Obj), (∀ o, o ∈ l → rightS o = true ∧ NumOk o.num) → (flat l).length < f →
    objF (pre ++ flat l) f pre.length acc = (acc ++ place pre.length l, 0)
  | [], pre, f + 1, acc, _, _ => by
    unfold objF
    rw [if_neg (by simp [flat])]
    simp [place]
  | o :: l, pre, f + 1, acc, h, hf => by
    obtain ⟨hr, hn⟩ := h o List.mem_cons_self
    have hpos : 1 ≤ (encW o).length := by simp [encW]
    have hat := at_enc pre (flat l) o hr hn
    have hfl : (flat (o :: l)).length = (encW o).length + (flat l).length := by show (encW o ++ flat l).length = _; rw [List.length_append]
    unfold objF
    rw [if_pos (by rw [List.length_append]; omega)]
    show (if (atS (pre ++ (encW o ++ flat l)) pre.length).2 != 0 then _ else objF (pre ++ (encW o ++ flat l)) f (pre.length + roomN (atS (pre ++ (encW o ++ flat l)) pre.length).1.kind (atS (pre ++ (encW o ++ flat l)) pre.length).1.text.size (atS (pre ++ (encW o ++ flat l)) pre.length).1.parts.length) (acc ++ [(atS (pre ++ (encW o ++ flat l)) pre.length).1])) = _
    rw [hat]
    simp only [Obj.to]
    rw [if_neg (by simp), ← enc_len o]
    have ih := objF_flat l (pre ++ encW o) f (acc ++ [o.to pre.length]) (fun x hx => h x (List.mem_cons_of_mem _ hx)) (by omega)
    rw [List.length_append, List.append_assoc] at ih
    rw [show (⟨(pre.length : Int), o.kind, o.num, o.text, o.parts⟩ : Obj) = o.to pre.length from rfl, ih]
    simp [place]

theorem objs_flat {l : List Obj} (h : ∀ o, o ∈ l → rightS o = true ∧ NumOk o.num) (h4 : (flat l).length ≤ 4000) : objsS (flat l) = (place 0 l, 0) := by
  unfold objsS
  rw [if_neg (by simp; omega)]
  have := objF_flat l [] ((flat l).length + 1) [] h (by omega)
  simpa using this

theorem chain_flat {h : List Int} : ∀ {l : List Obj} {a : Nat}, Chain h a l → h.drop a = flat l
  | [], a, hc => by have : a = h.length := hc; rw [this, List.drop_length]; rfl
  | o :: l, a, hc => by
    obtain ⟨_, _, h1, h2, h3⟩ := hc
    have ih := chain_flat h3
    show _ = encW o ++ flat l
    rw [← ih, ← List.drop_drop]
    conv => rhs; rw [h1]
    rw [List.length_take, List.length_drop, Nat.min_eq_left (by omega), List.take_append_drop]
end Go.Proofs.Ytagphggcdmjlpaa.P

/- Values that are words: a contract. -/
namespace Go.Proofs.Ytagphggcdmjlpaa.P
open Go.Ab Go.Proofs.Ytagphggcdmjlpaa.T

/-- The tag of a kind. -/
def tagOf (k : Int) : Int := if k = 1 then 0 else if k = 2 then 1 else if k = 3 then 2 else if k = 6 then 3 else -1

/-- What Of answers. -/
def ofS (k n : Int) (text : ByteArray) (args : List (List PV)) : Int × Bool :=
  if decide (tagOf k < 0) || !(text.toList == (ByteArray.mk #[]).toList) || decide ((args.length : Int) > 0) then (0, false) else ((wordS (tagOf k) n).1, (wordS (tagOf k) n).2 == 0)

theorem of (k n : Int) (text : ByteArray) (args : List (List PV)) : ACallP Try.prog 56 [valD k n text args] (.tup [wD (ofS k n text args).1, bD (ofS k n text args).2]) := by
  have hw := word (tagOf k) n
  have hv : ofS k n text args = if decide (tagOf k < 0) || !(text.toList == (ByteArray.mk #[]).toList) || decide ((args.length : Int) > 0) then (0, false) else ((wordS (tagOf k) n).1, (wordS (tagOf k) n).2 == 0) := rfl
  generalize wordS (tagOf k) n = x at hw hv
  obtain ⟨x, e⟩ := x
  simp only at hw hv
  rw [hv]
  clear hv
  generalize ht : tagOf k = t at hw ⊢
  refine acallp_fn [2, 3] Try.func56 rfl rfl Try.ntmps56 (by simp) fun R hR => ?_
  (refine awp_reg_seq [1] fun K hK => ?_; (repeat' ((refine al_r rfl fun K' hK' => ?_); (repeat (simp only [go_sem, simprocAttr])); ((refine hK' _ _ ?_) <;> clear hK' K'))); all_goals (refine al_nil ?_; (simp only [go_sem, simprocAttr]); refine hK _ ?_; clear hK K))
  (refine awp_frz [1] [] (by decide) (by (simp; done)) ?_; simp only [go_sem, simprocAttr])
  (refine awp_reg_seq [1, 4] fun K hK => ?_; (repeat' ((refine al_r rfl fun K' hK' => ?_); (repeat (simp only [go_sem, simprocAttr])); ((refine hK' _ _ ?_) <;> clear hK' K'))); all_goals (refine al_nil ?_; (simp only [go_sem, simprocAttr]); refine hK _ ?_; clear hK K))
  refine awp_seq_k fun K hK => ?_
  (refine awp_reg_seq [1, 4, 8] fun K hK => ?_; (repeat' ((refine al_r rfl fun K' hK' => ?_); (repeat (simp only [go_sem, simprocAttr])); ((refine hK' _ _ ?_) <;> clear hK' K'))); all_goals (refine al_nil ?_; (simp only [go_sem, simprocAttr]); refine hK _ ?_; clear hK K))
  have key : ∀ d9 d11 d13 d15, K ⟨ofL [(1, .rd [.lit (.int .i64 k), .lit (.int .i64 n), .lit (.string text), .sl args] 0), (4, iD t), (9, d9), (11, d11), (13, d13), (15, d15)], [], 0⟩ := by
    intro d9 d11 d13 d15
    refine hK _ ?_; clear hK K
    refine awp_seq_k fun K hK => ?_
    refine awp_reg_to [1, 4, 29] (k := ?_) (h := ?_) (s1 := ⟨ofL [(1, .rd [.lit (.int .i64 k), .lit (.int .i64 n), .lit (.string text), .sl args] 0), (4, iD t), (29, bD (decide (t < 0) || !(text.toList == (ByteArray.mk #[]).toList) || decide ((args.length : Int) > 0)))], [], 0⟩); · ((repeat' (first | ((first | refine al_r rfl fun K' hK' => ?_ | refine al_t rfl rfl fun K' hK' => ?_); (repeat (simp only [go_sem, simprocAttr])); ((first | refine hK' _ _ ?_ | refine ⟨?_, hK' _ _ ?_⟩) <;> clear hK' K' <;> (first | (show alist _ _ _ _ _ _; skip) | (intro s hs; cases hs; done)))) | refine al_e rfl rfl ?_ | ((fail_if_success (refine al_t rfl rfl fun K' hK' => ?_)); refine al_s _ rfl rfl rfl (fun hb => ?_) (fun hb => ?_)))); all_goals (refine al_nil ?_; simp only [go_sem, simprocAttr, *, Bool.and_true, Bool.and_false, Bool.true_and, Bool.false_and, Bool.or_true, Bool.true_or, Bool.or_false, Bool.false_or, Bool.not_true, Bool.not_false, Bool.false_eq_true]))
    refine awp_if (_) rfl (fun hc => ?_) (fun hc => ?_)
    · (refine awp_reg_seq [2, 3] fun K hK => ?_; (repeat' ((refine al_r rfl fun K' hK' => ?_); (repeat (simp only [go_sem, simprocAttr])); ((refine hK' _ _ ?_) <;> clear hK' K'))); all_goals (refine al_nil ?_; (simp only [go_sem, simprocAttr]); refine hK _ ?_; clear hK K))
      refine awp_ret ?_; (refine hR _ _ (.inl rfl) rfl ?_)
      simp only [hc, go_sem, simprocAttr]
    · refine awp_skip ?_
      refine hK _ ?_; clear hK K
      (refine awp_reg_seq [5, 6] fun K hK => ?_; (repeat' ((refine al_r rfl fun K' hK' => ?_); (repeat (simp only [go_sem, simprocAttr])); (first | ((refine hK' _ _ ?_) <;> clear hK' K') | ((show AC _ _ (D.fn 57 _) _ _); refine acall_p (f := 57) (e := rfl) (hr := rfl) (k := hK' _ _ ?_) (hc := Try.call57) (h := hw); clear hK' K')))); all_goals (refine al_nil ?_; (simp only [go_sem, simprocAttr]); refine hK _ ?_; clear hK K))
      (refine awp_reg_seq [2, 3] fun K hK => ?_; (repeat' ((refine al_r rfl fun K' hK' => ?_); (repeat (simp only [go_sem, simprocAttr])); ((refine hK' _ _ ?_) <;> clear hK' K'))); all_goals (refine al_nil ?_; (simp only [go_sem, simprocAttr]); refine hK _ ?_; clear hK K))
      refine awp_ret ?_; (refine hR _ _ (.inl rfl) rfl ?_)
      simp only [hc, go_sem, simprocAttr, Bool.false_eq_true]
  clear hK
  refine awp_block ?_
  (refine awp_reg_seq [1, 4, 8, 9] fun K hK => ?_; (repeat' ((refine al_r rfl fun K' hK' => ?_); (repeat (simp only [go_sem, simprocAttr])); ((refine hK' _ _ ?_) <;> clear hK' K'))); all_goals (refine al_nil ?_; (simp only [go_sem, simprocAttr]); refine hK _ ?_; clear hK K))
  refine awp_if (_) rfl (fun hc => ?_) (fun hc => ?_)
  · (refine awp_reg_end [1, 4, 9, 11, 13, 15] fun K hK => ?_; (repeat' ((refine al_r rfl fun K' hK' => ?_); (repeat (simp only [go_sem, simprocAttr])); ((refine hK' _ _ ?_) <;> clear hK' K'))); all_goals (refine al_nil ?_; (simp only [go_sem, simprocAttr]); refine hK _ ?_; clear hK K))
    have h1 : k = 1 := by simpa using hc
    have : t = 0 := by rw [← ht, h1]; rfl
    subst this
    exact key _ _ _ _
  · have n1 : k ≠ 1 := by simpa using hc
    (refine awp_reg_seq [1, 4, 8, 9, 11] fun K hK => ?_; (repeat' ((refine al_r rfl fun K' hK' => ?_); (repeat (simp only [go_sem, simprocAttr])); ((refine hK' _ _ ?_) <;> clear hK' K'))); all_goals (refine al_nil ?_; (simp only [go_sem, simprocAttr]); refine hK _ ?_; clear hK K))
    refine awp_if (_) rfl (fun hc => ?_) (fun hc => ?_)
    · (refine awp_reg_end [1, 4, 9, 11, 13, 15] fun K hK => ?_; (repeat' ((refine al_r rfl fun K' hK' => ?_); (repeat (simp only [go_sem, simprocAttr])); ((refine hK' _ _ ?_) <;> clear hK' K'))); all_goals (refine al_nil ?_; (simp only [go_sem, simprocAttr]); refine hK _ ?_; clear hK K))
      have h1 : k = 2 := by simpa using hc
      have : t = 1 := by rw [← ht, h1]; rfl
      subst this
      exact key _ _ _ _
    · have n2 : k ≠ 2 := by simpa using hc
      (refine awp_reg_seq [1, 4, 8, 9, 11, 13] fun K hK => ?_; (repeat' ((refine al_r rfl fun K' hK' => ?_); (repeat (simp only [go_sem, simprocAttr])); ((refine hK' _ _ ?_) <;> clear hK' K'))); all_goals (refine al_nil ?_; (simp only [go_sem, simprocAttr]); refine hK _ ?_; clear hK K))
      refine awp_if (_) rfl (fun hc => ?_) (fun hc => ?_)
      · (refine awp_reg_end [1, 4, 9, 11, 13, 15] fun K hK => ?_; (repeat' ((refine al_r rfl fun K' hK' => ?_); (repeat (simp only [go_sem, simprocAttr])); ((refine hK' _ _ ?_) <;> clear hK' K'))); all_goals (refine al_nil ?_; (simp only [go_sem, simprocAttr]); refine hK _ ?_; clear hK K))
        have h1 : k = 3 := by simpa using hc
        have : t = 2 := by rw [← ht, h1]; rfl
        subst this
        exact key _ _ _ _
      · have n3 : k ≠ 3 := by simpa using hc
        (refine awp_reg_seq [1, 4, 9, 11, 13, 15] fun K hK => ?_; (repeat' ((refine al_r rfl fun K' hK' => ?_); (repeat (simp only [go_sem, simprocAttr])); ((refine hK' _ _ ?_) <;> clear hK' K'))); all_goals (refine al_nil ?_; (simp only [go_sem, simprocAttr]); refine hK _ ?_; clear hK K))
        refine awp_if (_) rfl (fun hc => ?_) (fun hc => ?_)
        · (refine awp_reg_end [1, 4, 9, 11, 13, 15] fun K hK => ?_; (repeat' ((refine al_r rfl fun K' hK' => ?_); (repeat (simp only [go_sem, simprocAttr])); ((refine hK' _ _ ?_) <;> clear hK' K'))); all_goals (refine al_nil ?_; (simp only [go_sem, simprocAttr]); refine hK _ ?_; clear hK K))
          have h1 : k = 6 := by simpa using hc
          have : t = 3 := by rw [← ht, h1]; rfl
          subst this
          exact key _ _ _ _
        · have n4 : k ≠ 6 := by simpa using hc
          refine awp_skip ?_
          have : t = -1 := by rw [← ht]; simp only [tagOf, if_neg n1, if_neg n2, if_neg n3, if_neg n4]
          subst this
          exact key _ _ _ _


end Go.Proofs.Ytagphggcdmjlpaa.P

/- A value is built in a heap: a contract. -/
namespace Go.Proofs.Ytagphggcdmjlpaa.P
open Go.Ab Go.Proofs.Ytagphggcdmjlpaa.T

theorem bits_ok (op : BinOp) (x y : Int) : WordOk (bits op .u64 x y) := by
  have := wf_bits op .u64 x y
  simp [Lit.wf, IntKind.min, IntKind.max, IntKind.signed, IntKind.bits] at this
  exact ⟨by omega, by omega⟩

theorem wordS_ok (t n : Int) : WordOk (wordS t n).1 := by
  unfold wordS
  split
  · show WordOk (wordOf t n)
    exact bits_ok _ _ _
  · split
    · exact ⟨by decide, by decide⟩
    · exact ⟨by decide, by decide⟩

/-- What the objects of a heap are made of. -/
abbrev ObjOk (o : Obj) : Prop := rightS o = true ∧ NumOk o.num ∧ ∀ w, w ∈ o.parts → WordOk w
end Go.Proofs.Ytagphggcdmjlpaa.P

/- A value that is built makes a heap grow by objects; the depth of values, told ahead. -/
namespace Go.Proofs.Ytagphggcdmjlpaa.P
open Go.Ab Go.Proofs.Ytagphggcdmjlpaa.T

theorem c3 : Try.prog.cellsOf 3 = 1 := by kernel_rfl
theorem c9 : Try.prog.cellsOf 9 = 1 := by kernel_rfl
end Go.Proofs.Ytagphggcdmjlpaa.P

/- What the function of the statement HeapWhole answers. -/
namespace Go.Proofs.Ytagphggcdmjlpaa.P
open Go.Ab Go.Proofs.Ytagphggcdmjlpaa.T

abbrev irow (n : Int) : List PV := [.lit (.int .i64 n)]
abbrev ints (ns : List Int) : D := .p (.sl (ns.map irow))


theorem wrap_ok (x : Int) : NumOk (IntKind.i64.wrap x) := by
  simp only [IntKind.wrap, IntKind.bits, IntKind.signed]
  simp
  constructor <;> omega

theorem at_num (h : List Int) (a : Int) : NumOk (atS h a).1.num := by
  have z : NumOk z0.num := ⟨by decide, by decide⟩
  have hO : ∀ (n m : Nat) (o : Obj), NumOk o.num → NumOk (atO h n o m).1.num := fun n m o ho => by
    unfold atO
    split
    · exact z
    · exact ho
  unfold atS
  split
  · exact z
  split
  · exact z
  split
  · exact z
  unfold atR
  split
  · exact hO _ _ _ (wrap_ok _)
  · exact hO _ _ _ z

theorem objF_nums {h : List Int} : ∀ (f a : Nat) (acc : List Obj), (∀ o, o ∈ acc → NumOk o.num) → ∀ o, o ∈ (objF h f a acc).1 → NumOk o.num
  | 0, _, _, ha, o, ho => ha o ho
  | f + 1, a, acc, ha, o, ho => by
    unfold objF at ho
    split at ho
    · split at ho
      · cases ho
      · refine objF_nums f _ _ (fun x hx => ?_) o ho
        rcases List.mem_append.1 hx with hx | hx
        · exact ha x hx
        · rw [List.mem_singleton.1 hx]; exact at_num h a
    · exact ha o ho

theorem chain_right {h : List Int} : ∀ {l : List Obj} {a : Nat}, Chain h a l → ∀ o, o ∈ l → rightS o = true
  | [], _, _, _, ho => by cases ho
  | x :: l, _, hc, o, ho => by
    obtain ⟨_, h1, _, _, h2⟩ := hc
    rcases List.mem_cons.1 ho with rfl | ho
    · exact h1
    · exact chain_right h2 o ho

theorem sum_lt (s : ByteArray) (i : Nat) : sumF s i 8 0 < 18446744073709551616 := by
  have b0 := byteV_lt s (i + 0)
  have b1 := byteV_lt s (i + 1)
  have b2 := byteV_lt s (i + 2)
  have b3 := byteV_lt s (i + 3)
  have b4 := byteV_lt s (i + 4)
  have b5 := byteV_lt s (i + 5)
  have b6 := byteV_lt s (i + 6)
  have b7 := byteV_lt s (i + 7)
  show byteV s (i + 0) * 2 ^ 0 + (byteV s (i + 1) * 2 ^ 8 + (byteV s (i + 2) * 2 ^ 16 + (byteV s (i + 3) * 2 ^ 24 + (byteV s (i + 4) * 2 ^ 32 + (byteV s (i + 5) * 2 ^ 40 + (byteV s (i + 6) * 2 ^ 48 + (byteV s (i + 7) * 2 ^ 56 + 0))))))) < _
  omega

theorem textF_ok (s : ByteArray) : ∀ (m i : Nat) (w : Int), w ∈ textF s m i → WordOk w
  | 0, _, _, h => by cases h
  | m + 1, i, w, h => by
    rcases List.mem_cons.1 h with rfl | h
    · rw [word_val]
      have := sum_lt s i
      exact ⟨Int.natCast_nonneg _, by omega⟩
    · exact textF_ok s m (i + 8) w h

theorem enc_ok {o : Obj} (hp : ∀ w, w ∈ o.parts → WordOk w) : ∀ w, w ∈ encW o → WordOk w := by
  intro w hw
  unfold encW at hw
  rcases List.mem_cons.1 hw with rfl | hw
  · exact bits_ok _ _ _
  · rcases List.mem_append.1 hw with hw | hw
    · unfold numW at hw
      split at hw
      · rw [List.mem_singleton.1 hw, IntKind.wrap_u64]
        exact ⟨by omega, by omega⟩
      · cases hw
    · rcases List.mem_append.1 hw with hw | hw
      · exact textF_ok _ _ _ w hw
      · exact hp w hw

theorem flat_ok : ∀ {L : List Obj}, (∀ o, o ∈ L → ∀ w, w ∈ o.parts → WordOk w) → ∀ w, w ∈ flat L → WordOk w
  | [], _, w, hw => by cases hw
  | o :: L, h, w, hw => by
    rcases List.mem_append.1 (show w ∈ encW o ++ flat L from hw) with hw | hw
    · exact enc_ok (h o List.mem_cons_self) w hw
    · exact flat_ok (fun x hx => h x (List.mem_cons_of_mem _ hx)) w hw

end Go.Proofs.Ytagphggcdmjlpaa.P

/- Words are read: contracts, and that they are read as they were told. -/
namespace Go.Proofs.Ytagphggcdmjlpaa.P
open Go.Ab Go.Proofs.Ytagphggcdmjlpaa.T

/-- What Read answers. -/
def readT (w : Int) : Int := IntKind.i64.wrap (w.tmod 8)
def readN0 (w : Int) : Int := IntKind.i64.wrap (w.fdiv (2 ^ min 3 64))
def readN1 (w : Int) : Int := (IntKind.i64.wrap w).fdiv (2 ^ min 3 64)
def readN (w : Int) : Int := if readT w = 1 then readN1 w else readN0 w

def readS (w : Int) : Int × Int × Int :=
  if (wordS (readT w) (readN w)).2 = 0 ∧ (wordS (readT w) (readN w)).1 = w then (readT w, readN w, 0) else (0, 0, 3)

theorem readW (w : Int) : ACallP Try.prog 62 [wD w] (.tup [iD (readS w).1, iD (readS w).2.1, iD (readS w).2.2]) := by
  obtain ⟨t, ht⟩ : ∃ t, t = readT w := ⟨_, rfl⟩
  obtain ⟨n, hn⟩ : ∃ n, n = readN w := ⟨_, rfl⟩
  have hw := word t n
  obtain ⟨x, hx⟩ : ∃ x, x = wordS t n := ⟨_, rfl⟩
  rw [← hx] at hw
  have hr : readS w = if x.2 = 0 ∧ x.1 = w then (t, n, 0) else (0, 0, 3) := by rw [hx, ht, hn]; rfl
  obtain ⟨x, e⟩ := x
  simp only at hw hr
  rw [hr]
  refine acallp_fn [2, 3, 4] Try.func62 rfl rfl Try.ntmps62 (by simp) fun R hR => ?_
  (refine awp_reg_seq [0] fun K hK => ?_; (repeat' ((refine al_r rfl fun K' hK' => ?_); (repeat (simp only [go_sem, simprocAttr])); ((refine hK' _ _ ?_) <;> clear hK' K'))); all_goals (refine al_nil ?_; (simp only [go_sem, simprocAttr]); refine hK _ ?_; clear hK K))
  (refine awp_reg_seq [0, 5, 6] fun K hK => ?_; (repeat' ((refine al_r rfl fun K' hK' => ?_); (repeat (simp only [go_sem, simprocAttr])); ((refine hK' _ _ ?_) <;> clear hK' K'))); all_goals (refine al_nil ?_; (simp only [go_sem, simprocAttr]); refine hK _ ?_; clear hK K))
  rw [show IntKind.i64.wrap (w.tmod 8) = t from ht.symm, show IntKind.i64.wrap (w.fdiv (2 ^ min 3 64)) = readN0 w from rfl]
  refine awp_seq_k fun K hK => ?_
  have key : ∀ d, K ⟨ofL [(0, wD w), (5, iD t), (6, iD n), (16, d)], [], 0⟩ := by
    intro d
    refine hK _ ?_; clear hK K
    refine awp_seq_k fun K hK => ?_
    (refine awp_reg_seq [0, 5, 6, 7, 8] fun K hK => ?_; (repeat' ((refine al_r rfl fun K' hK' => ?_); (repeat (simp only [go_sem, simprocAttr])); (first | ((refine hK' _ _ ?_) <;> clear hK' K') | ((show AC _ _ (D.fn 57 _) _ _); refine acall_p (f := 57) (e := rfl) (hr := rfl) (k := hK' _ _ ?_) (hc := Try.call57) (h := hw); clear hK' K')))); all_goals (refine al_nil ?_; (simp only [go_sem, simprocAttr]); refine hK _ ?_; clear hK K))
    refine awp_reg_to [5, 6, 32] (k := ?_) (h := ?_) (s1 := ⟨ofL [(5, iD t), (6, iD n), (32, bD (e != 0 || x != w))], [], 0⟩); · ((repeat' (first | ((first | refine al_r rfl fun K' hK' => ?_ | refine al_t rfl rfl fun K' hK' => ?_); (repeat (simp only [go_sem, simprocAttr])); ((refine hK' _ _ ?_) <;> clear hK' K')) | refine al_e rfl rfl ?_ | ((fail_if_success (refine al_t rfl rfl fun K' hK' => ?_)); refine al_s _ rfl rfl rfl (fun hb => ?_) (fun hb => ?_)))); all_goals (refine al_nil ?_; simp only [go_sem, simprocAttr, *, Bool.and_true, Bool.and_false, Bool.true_and, Bool.false_and, Bool.or_true, Bool.true_or, Bool.or_false, Bool.false_or, Bool.not_true, Bool.not_false, Bool.false_eq_true]))
    refine awp_if (_) rfl (fun hc => ?_) (fun hc => ?_)
    · (refine awp_reg_seq [2, 3, 4] fun K hK => ?_; (repeat' ((refine al_r rfl fun K' hK' => ?_); (repeat (simp only [go_sem, simprocAttr])); ((refine hK' _ _ ?_) <;> clear hK' K'))); all_goals (refine al_nil ?_; (simp only [go_sem, simprocAttr]); refine hK _ ?_; clear hK K))
      refine awp_ret ?_; (refine hR _ _ (.inl rfl) rfl ?_)
      have : ¬ (e = 0 ∧ x = w) := by simp only [Bool.or_eq_true, bne_iff_ne] at hc; omega
      rw [if_neg this]
      simp only [go_sem, simprocAttr]
    · refine awp_skip ?_
      refine hK _ ?_; clear hK K
      (refine awp_reg_seq [2, 3, 4] fun K hK => ?_; (repeat' ((refine al_r rfl fun K' hK' => ?_); (repeat (simp only [go_sem, simprocAttr])); ((refine hK' _ _ ?_) <;> clear hK' K'))); all_goals (refine al_nil ?_; (simp only [go_sem, simprocAttr]); refine hK _ ?_; clear hK K))
      refine awp_ret ?_; (refine hR _ _ (.inl rfl) rfl ?_)
      have : e = 0 ∧ x = w := by simpa using hc
      rw [if_pos this]
      simp only [go_sem, simprocAttr]
  clear hK
  (refine awp_reg_seq [0, 5, 6, 16] fun K hK => ?_; (repeat' ((refine al_r rfl fun K' hK' => ?_); (repeat (simp only [go_sem, simprocAttr])); ((refine hK' _ _ ?_) <;> clear hK' K'))); all_goals (refine al_nil ?_; (simp only [go_sem, simprocAttr]); refine hK _ ?_; clear hK K))
  refine awp_if (_) rfl (fun hc => ?_) (fun hc => ?_)
  · have h1 : readT w = 1 := by rw [← ht]; simpa using hc
    (refine awp_reg_end [0, 5, 6, 16] fun K hK => ?_; (repeat' ((refine al_r rfl fun K' hK' => ?_); (repeat (simp only [go_sem, simprocAttr])); ((refine hK' _ _ ?_) <;> clear hK' K'))); all_goals (refine al_nil ?_; (simp only [go_sem, simprocAttr]); refine hK _ ?_; clear hK K))
    have : (IntKind.i64.wrap w).fdiv (2 ^ min 3 64) = n := by rw [hn, readN, if_pos h1]; rfl
    rw [this]
    exact key _
  · have h1 : ¬ readT w = 1 := by rw [← ht]; simpa using hc
    refine awp_skip ?_
    have : readN0 w = n := by rw [hn, readN, if_neg h1]
    rw [this]
    exact key _
open Go.RowKit

theorem fits_lt {t n : Int} (h : fits t n = true) : 0 ≤ t ∧ t ≤ 4 ∧ -1152921504606846976 ≤ n ∧ n < 1152921504606846976 ∧ (t ≠ 1 → 0 ≤ n) := by
  simp [fits] at h
  omega

theorem wrapU (n : Int) : IntKind.u64.wrap n = n % 18446744073709551616 := by simp [IntKind.wrap, IntKind.bits, IntKind.signed]

/-- Eight times a number, joined with less than eight: the sum. -/
theorem wordOf_eq {t n : Int} (h0 : 0 ≤ t) (h1 : t < 8) : wordOf t n = (n * 8) % 18446744073709551616 + t := by
  unfold wordOf
  rw [wrapU, wrapU, wrapU]
  have e : n % 18446744073709551616 * 8 % 18446744073709551616 = n * 8 % 18446744073709551616 := by omega
  rw [e, show t % 18446744073709551616 = t by omega]
  have := bits_join .u64 64 (by decide) (fun n h0 h1 => by rw [wrapU]; omega) 3 (n * 8 % 18446744073709551616) t
  exact this (by omega) (by omega) (by omega) h0 (by omega) (by omega)

theorem wordS_snd (t n : Int) : (wordS t n).2 = 0 ↔ fits t n = true := by
  unfold wordS; split
  · simp [*]
  · split <;> simp [*]

theorem wordS_fst {t n : Int} (h : fits t n = true) : (wordS t n).1 = (n * 8) % 18446744073709551616 + t := by
  have a := fits_lt h
  unfold wordS; rw [if_pos h]; exact wordOf_eq (by omega) (by omega)

theorem wrapI (n : Int) : IntKind.i64.wrap n = (n + 9223372036854775808) % 18446744073709551616 - 9223372036854775808 := by
  simp only [IntKind.wrap, IntKind.bits, IntKind.signed]
  simp
  omega

theorem p8 : ((2 : Int) ^ min 3 64) = 8 := by decide

/-- A word is read as it was told. -/
theorem read_word {t n : Int} (h : fits t n = true) : readS (wordS t n).1 = (t, n, 0) := by
  have hl := fits_lt h
  have e := wordS_fst h
  have h0 : 0 ≤ (wordS t n).1 := by rw [e]; omega
  have ht : readT (wordS t n).1 = t := by
    unfold readT
    rw [Int.tmod_eq_emod_of_nonneg h0, wrapI, e]
    omega
  have hn : readN (wordS t n).1 = n := by
    unfold readN
    rw [ht]
    by_cases h1 : t = 1
    · rw [if_pos h1]
      unfold readN1
      rw [p8, wrapI, Int.fdiv_eq_ediv_of_nonneg _ (by omega), e]
      omega
    · rw [if_neg h1]
      unfold readN0
      rw [p8, wrapI, Int.fdiv_eq_ediv_of_nonneg _ (by omega), e]
      have := hl.2.2.2.2 h1
      omega
  unfold readS
  rw [ht, hn, if_pos ⟨(wordS_snd t n).2 h, rfl⟩]

def kindsS (k : Int) : Int := if k = 1 then 2 else if k = 2 then 4 else if k = 3 then 5 else if k = 4 then 7 else 8

end Go.Proofs.Ytagphggcdmjlpaa.P

/- Places that words name; are numbers contained: contracts. -/
namespace Go.Proofs.Ytagphggcdmjlpaa.P
open Go.Ab Go.Proofs.Ytagphggcdmjlpaa.T

/-- What place answers. -/
def placeS (w : Int) : Int × Bool × Int := ((readS w).2.1, (readS w).2.2 == 0 && (readS w).1 == 4, (readS w).2.2)


theorem placeW (w : Int) : ACallP Try.prog 68 [wD w] (.tup [iD (placeS w).1, bD (placeS w).2.1, iD (placeS w).2.2]) := by
  have hrd := readW w
  unfold placeS
  generalize readS w = Q at hrd ⊢
  obtain ⟨t, n, e⟩ := Q
  simp only at hrd ⊢
  refine acallp_fn [2, 3, 4] Try.func68 rfl rfl Try.ntmps68 (by simp) fun R hR => ?_
  (refine awp_reg_seq [0] fun K hK => ?_; (repeat' ((refine al_r rfl fun K' hK' => ?_); (repeat (simp only [go_sem, simprocAttr])); ((refine hK' _ _ ?_) <;> clear hK' K'))); all_goals (refine al_nil ?_; (simp only [go_sem, simprocAttr]); refine hK _ ?_; clear hK K))
  (refine awp_reg_seq [5, 6, 7] fun K hK => ?_; (repeat' ((refine al_r rfl fun K' hK' => ?_); (repeat (simp only [go_sem, simprocAttr])); (first | ((refine hK' _ _ ?_) <;> clear hK' K') | ((show AC _ _ (D.fn 62 _) _ _); refine acall_p (f := 62) (e := rfl) (hr := rfl) (k := hK' _ _ ?_) (hc := Try.call62) (h := hrd); clear hK' K')))); all_goals (refine al_nil ?_; (simp only [go_sem, simprocAttr]); refine hK _ ?_; clear hK K))
  (refine awp_reg_seq [2, 3, 4] fun K hK => ?_; (repeat' (first | ((first | refine al_r rfl fun K' hK' => ?_ | refine al_t rfl rfl fun K' hK' => ?_); (repeat (simp only [go_sem, simprocAttr])); ((refine hK' _ _ ?_) <;> clear hK' K')) | refine al_e rfl rfl ?_ | ((fail_if_success (refine al_t rfl rfl fun K' hK' => ?_)); refine al_s _ rfl rfl rfl (fun hb => ?_) (fun hb => ?_)))); all_goals (refine al_nil ?_; (simp only [go_sem, simprocAttr]); refine hK _ ?_; clear hK K))
  all_goals (refine awp_ret ?_; (refine hR _ _ (.inl rfl) rfl ?_); (simp only [go_sem, simprocAttr, *, Bool.and_true, Bool.and_false, Bool.true_and, Bool.false_and, Bool.or_true, Bool.true_or, Bool.or_false, Bool.false_or, Bool.not_true, Bool.not_false, Bool.false_eq_true]; done))


theorem indexI (ls : List Int) (hlen : ls.length ≤ maxLen) (v : Int) : ACallP Try.prog 65 [ints ls, iD v] (iD (firstAt (fun n => v == n) ls)) := by
  refine acallp_fn [4] Try.func65 rfl rfl Try.ntmps65 (by simp) fun R hR => ?_
  (refine awp_reg_seq [0, 1] fun K hK => ?_; (repeat' ((refine al_r rfl fun K' hK' => ?_); (repeat (simp only [go_sem, simprocAttr, List.length_map])); ((refine hK' _ _ ?_) <;> clear hK' K'))); all_goals (refine al_nil ?_; (simp only [go_sem, simprocAttr, List.length_map]); refine hK _ ?_; clear hK K))
  refine awp_seq_k fun K hK => ?_
  (refine awp_reg_seq [0, 1, 7, 8] fun K hK => ?_; (repeat' ((refine al_r rfl fun K' hK' => ?_); (repeat (simp only [go_sem, simprocAttr, List.length_map])); ((first | refine hK' _ _ ?_ | refine ⟨?_, hK' _ _ ?_⟩) <;> clear hK' K' <;> (first | (show alist _ _ _ _ _ _; skip) | (intro s hs; cases hs; done))))); all_goals (refine al_nil ?_; (simp only [go_sem, simprocAttr, List.length_map]); refine hK _ ?_; clear hK K))
  refine awp_block ?_
  -- loop 0 head [0, 1, 7, 8]
  refine awp_loop (fun m s => ∃ i : Nat, i ≤ ls.length ∧ m = ls.length - i ∧ (∀ (j : Nat) y, j < i → ls[j]? = some y → (v == y) = false) ∧ s = ⟨ofL [(0, ints ls), (1, iD v), (7, iD ls.length), (8, iD i)], [], 0⟩) ⟨_, 0, Nat.zero_le _, rfl, fun j _ hj => absurd hj (by omega), rfl⟩ ?_
  rintro m s ⟨i, hi, rfl, hbefore, rfl⟩
  (refine awp_reg_seq [0, 1, 7, 8, 9] fun K hK => ?_; (repeat' ((refine al_r rfl fun K' hK' => ?_); (repeat (simp only [go_sem, simprocAttr, List.length_map])); ((refine hK' _ _ ?_) <;> clear hK' K'))); all_goals (refine al_nil ?_; (simp only [go_sem, simprocAttr, List.length_map]); refine hK _ ?_; clear hK K))
  refine awp_seq_k fun K hK => ?_
  refine awp_if (decide ((i : Int) < ls.length)) rfl (fun hc => ?_) (fun hc => ?_)
  · refine awp_skip ?_
    refine hK _ ?_; clear hK K
    refine awp_seq_k fun K hK => ?_
    refine awp_block ?_
    have hi2 : i < ls.length := by simpa using hc
    obtain ⟨x, hx⟩ := get_of_lt hi2
    have hnn : (0 : Int) ≤ (i : Int) := Int.natCast_nonneg i
    have hnx : IntKind.i64.wrap ((i : Int) + 1) = ((i + 1 : Nat) : Int) := wrap_next hi2 hlen

    (refine awp_reg_seq [0, 1, 5, 7, 8] fun K hK => ?_; (repeat' ((refine al_r rfl fun K' hK' => ?_); (repeat (simp only [go_sem, simprocAttr, List.length_map, hx, hnn, hi2, Int.toNat_natCast, List.getElem?_map, Option.map_some, hnx])); ((refine hK' _ _ ?_) <;> clear hK' K'))); all_goals (refine al_nil ?_; (simp only [go_sem, simprocAttr, List.length_map, hx, hnn, hi2, Int.toNat_natCast, List.getElem?_map, Option.map_some, hnx]); refine hK _ ?_; clear hK K))
    (refine awp_reg_seq [0, 1, 5, 7, 8, 16] fun K hK => ?_; (repeat' ((refine al_r rfl fun K' hK' => ?_); (repeat (simp only [go_sem, simprocAttr, List.length_map, hx, hnn, hi2, Int.toNat_natCast, List.getElem?_map, Option.map_some, hnx])); ((refine hK' _ _ ?_) <;> clear hK' K'))); all_goals (refine al_nil ?_; (simp only [go_sem, simprocAttr, List.length_map, hx, hnn, hi2, Int.toNat_natCast, List.getElem?_map, Option.map_some, hnx]); refine hK _ ?_; clear hK K))
    refine awp_if (v == x) rfl (fun hc => ?_) (fun hc => ?_)
    · rw [firstAt_at (fun j hj y hy => hbefore j y hj hy) hx hc] at hR
      (refine awp_reg_seq [4] fun K hK => ?_; (repeat' ((refine al_r rfl fun K' hK' => ?_); (repeat (simp only [go_sem, simprocAttr, List.length_map, hx, hnn, hi2, Int.toNat_natCast, List.getElem?_map, Option.map_some, hnx])); ((refine hK' _ _ ?_) <;> clear hK' K'))); all_goals (refine al_nil ?_; (simp only [go_sem, simprocAttr, List.length_map, hx, hnn, hi2, Int.toNat_natCast, List.getElem?_map, Option.map_some, hnx]); refine hK _ ?_; clear hK K))
      all_goals (refine awp_ret ?_; (refine hR _ _ (.inl rfl) rfl ?_); (simp only [go_sem, simprocAttr, List.length_map, hx, hnn, hi2, Int.toNat_natCast, List.getElem?_map, Option.map_some, hnx, *, Bool.and_true, Bool.and_false, Bool.true_and, Bool.false_and, Bool.or_true, Bool.true_or, Bool.or_false, Bool.false_or, Bool.not_true, Bool.not_false, Bool.false_eq_true]; done))
    · have hne := hc
      refine awp_skip ?_
      refine hK _ ?_; clear hK K
      (refine awp_reg_end [0, 1, 7, 8] fun K hK => ?_; (repeat' ((refine al_r rfl fun K' hK' => ?_); (repeat (simp only [go_sem, simprocAttr, List.length_map, hx, hnn, hi2, Int.toNat_natCast, List.getElem?_map, Option.map_some, hnx])); ((refine hK' _ _ ?_) <;> clear hK' K'))); all_goals (refine al_nil ?_; (simp only [go_sem, simprocAttr, List.length_map, hx, hnn, hi2, Int.toNat_natCast, List.getElem?_map, Option.map_some, hnx]); refine hK _ ?_; clear hK K))
      refine ⟨_, ?_, i + 1, hi2, rfl, fun j y hj hy => ?_, ?_⟩
      · omega
      · rcases Nat.lt_succ_iff_lt_or_eq.1 hj with h | rfl
        · exact hbefore j y h hy
        · rw [hx] at hy; cases hy; exact hne
      · rfl

  · refine awp_exit ?_
    have hie : i = ls.length := by simp at hc; omega
    rw [firstAt_none (fun j y hy => hbefore j y (by rw [hie]; exact lt_of_get hy) hy)] at hR
    clear hK
    refine hK _ ?_; clear hK K
    (refine awp_reg_seq [4] fun K hK => ?_; (repeat' ((refine al_r rfl fun K' hK' => ?_); (repeat (simp only [go_sem, simprocAttr, List.length_map])); ((refine hK' _ _ ?_) <;> clear hK' K'))); all_goals (refine al_nil ?_; (simp only [go_sem, simprocAttr, List.length_map]); refine hK _ ?_; clear hK K))
    all_goals (refine awp_ret ?_; (refine hR _ _ (.inl rfl) rfl ?_); (simp only [go_sem, simprocAttr, List.length_map, *, Bool.and_true, Bool.and_false, Bool.true_and, Bool.false_and, Bool.or_true, Bool.true_or, Bool.or_false, Bool.false_or, Bool.not_true, Bool.not_false, Bool.false_eq_true]; done))


theorem contains (ls : List Int) (hlen : ls.length ≤ maxLen) (v : Int) : ACallP Try.prog 32 [ints ls, iD v] (bD (decide (firstAt (fun n => v == n) ls ≥ 0))) := by
  have hix := indexI ls hlen v
  refine acallp_fn [4] Try.func32 rfl rfl Try.ntmps32 (by simp) fun R hR => ?_
  (refine awp_reg_seq [0, 1] fun K hK => ?_; (repeat' ((refine al_r rfl fun K' hK' => ?_); (repeat (simp only [go_sem, simprocAttr])); ((refine hK' _ _ ?_) <;> clear hK' K'))); all_goals (refine al_nil ?_; (simp only [go_sem, simprocAttr]); refine hK _ ?_; clear hK K))
  (refine awp_reg_seq [4] fun K hK => ?_; (repeat' ((refine al_r rfl fun K' hK' => ?_); (repeat (simp only [go_sem, simprocAttr])); (first | ((refine hK' _ _ ?_) <;> clear hK' K') | ((show AC _ _ (D.fn 65 _) _ _); refine acall_p (f := 65) (e := rfl) (hr := rfl) (k := hK' _ _ ?_) (hc := Try.call65) (h := hix); clear hK' K')))); all_goals (refine al_nil ?_; (simp only [go_sem, simprocAttr]); refine hK _ ?_; clear hK K))
  all_goals (refine awp_ret ?_; (refine hR _ _ (.inl rfl) rfl ?_); (simp only [go_sem, simprocAttr, *, Bool.and_true, Bool.and_false, Bool.true_and, Bool.false_and, Bool.or_true, Bool.true_or, Bool.or_false, Bool.false_or, Bool.not_true, Bool.not_false, Bool.false_eq_true]; done))

end Go.Proofs.Ytagphggcdmjlpaa.P

/- Are ages right: a contract. -/
namespace Go.Proofs.Ytagphggcdmjlpaa.P
open Go.Ab Go.Proofs.Ytagphggcdmjlpaa.T

abbrev agesD (h : List Int) (old : Int) (late : List Int) : D := .agg [words h, iD old, ints late]

/-- Does an object begin, or the heap end, at a place. -/
def begS (n : Int) (l : List Obj) (t : Int) : Bool := t == n || l.any fun o => t == o.at_
def hasI (ns : List Int) (t : Int) : Bool := ns.any fun m => t == m

def Starts (n : Int) (l : List Obj) (es : List (Value × PV)) : Prop := intKeys .i64 es ∧ ∀ t, mget es t = if begS n l t then some (.lit (.bool true)) else none

theorem starts_nil (n : Int) : Starts n [] (mset .i64 n (.lit (.bool true)) []) := by
  refine ⟨intKeys_mset (intKeys_nil _), fun t => ?_⟩
  rw [mget_mset (intKeys_nil _)]
  unfold begS
  by_cases h : n = t
  · subst h; simp
  · have : (t == n) = false := by simpa using fun h2 => h h2.symm
    rw [if_neg h, this]; rfl

theorem starts_snoc {n : Int} {l : List Obj} {es : List (Value × PV)} (h : Starts n l es) (o : Obj) : Starts n (l ++ [o]) (mset .i64 o.at_ (.lit (.bool true)) es) := by
  refine ⟨intKeys_mset h.1, fun t => ?_⟩
  rw [mget_mset h.1, h.2]
  unfold begS
  rw [List.any_append]
  by_cases e : o.at_ = t
  · subst e; simp
  · have : (t == o.at_) = false := by simpa using fun h2 => e h2.symm
    rw [if_neg e]
    simp [this]

def prevB (pv : Option Int) (t : Int) : Bool := match pv with | some p => decide (p ≥ t) | none => false

/-- Are late places not so: the one ahead is told. -/
def lateF (old : Int) (beg : Int → Bool) : Option Int → List Int → Bool
  | _, [] => false
  | pv, t :: r => (decide (t ≥ old) || !beg t || prevB pv t) || lateF old beg (some t) r

def partE (n old : Int) (beg : Int → Bool) (late : List Int) (o : Obj) (w : Int) : Int :=
  if (placeS w).2.2 != 0 || ((placeS w).2.1 && ((placeS w).1 == n || !beg (placeS w).1)) then 4
  else if (placeS w).2.1 && decide (o.at_ < old) && decide ((placeS w).1 ≥ old) && !hasI late o.at_ then 8 else 0

def firstE {α : Type} (f : α → Int) : List α → Int
  | [] => 0
  | x :: l => if f x != 0 then f x else firstE f l

/-- What Check answers, for objects. -/
def checkO (n old : Int) (late : List Int) (l : List Obj) : Int :=
  if decide (old < 0) || !begS n l old then 1 else if lateF old (begS n l) none late then 21 else firstE (fun o => firstE (partE n old (begS n l) late o) o.parts) l

def checkY (h : List Int) (old : Int) (late : List Int) : Int := if (objsS h).2 != 0 then (objsS h).2 else checkO h.length old late (objsS h).1


theorem checkBad (h : List Int) (old e : Int) (late : List Int) (l : List Obj) (he : (e != 0) = true) (hob : ACallP Try.prog 15 [words h] (.tup [objs l, iD e])) : ACallP Try.prog 35 [agesD h old late] (iD e) := by
  refine acallp_fn [2] Try.func35 rfl rfl Try.ntmps35 (by simp) fun R hR => ?_
  (refine awp_reg_seq [1] fun K hK => ?_; (repeat' ((refine al_r rfl fun K' hK' => ?_); (repeat (simp only [go_sem, simprocAttr, he])); ((refine hK' _ _ ?_) <;> clear hK' K'))); all_goals (refine al_nil ?_; (simp only [go_sem, simprocAttr, he]); refine hK _ ?_; clear hK K))
  (refine awp_frz [1] [] (by decide) (by (simp; done)) ?_; simp only [go_sem, simprocAttr, he])
  (refine awp_reg_seq [1, 3, 4] fun K hK => ?_; (repeat' ((refine al_r rfl fun K' hK' => ?_); (repeat (simp only [go_sem, simprocAttr, he])); (first | ((refine hK' _ _ ?_) <;> clear hK' K') | ((show AC _ _ (D.fn 15 _) _ _); refine acall_p (f := 15) (e := rfl) (hr := rfl) (k := hK' _ _ ?_) (hc := Try.call15) (h := hob); clear hK' K')))); all_goals (refine al_nil ?_; (simp only [go_sem, simprocAttr, he]); refine hK _ ?_; clear hK K))
  refine awp_seq_k fun K hK => ?_
  (refine awp_reg_seq [1, 3, 4, 24] fun K hK => ?_; (repeat' ((refine al_r rfl fun K' hK' => ?_); (repeat (simp only [go_sem, simprocAttr, he])); ((refine hK' _ _ ?_) <;> clear hK' K'))); all_goals (refine al_nil ?_; (simp only [go_sem, simprocAttr, he]); refine hK _ ?_; clear hK K))
  refine awp_if (_) rfl (fun hc => ?_) (fun hc => ?_)
  · (refine awp_reg_seq [2] fun K hK => ?_; (repeat' ((refine al_r rfl fun K' hK' => ?_); (repeat (simp only [go_sem, simprocAttr, he])); ((refine hK' _ _ ?_) <;> clear hK' K'))); all_goals (refine al_nil ?_; (simp only [go_sem, simprocAttr, he]); refine hK _ ?_; clear hK K))
    all_goals (refine awp_ret ?_; (refine hR _ _ (.inl rfl) rfl ?_); (simp only [go_sem, simprocAttr, he, *, Bool.and_true, Bool.and_false, Bool.true_and, Bool.false_and, Bool.or_true, Bool.true_or, Bool.or_false, Bool.false_or, Bool.not_true, Bool.not_false, Bool.false_eq_true]; done))
  · cases hc


theorem checkGood (h : List Int) (old : Int) (late : List Int) (l : List Obj) (hob : ACallP Try.prog 15 [words h] (.tup [objs l, iD 0])) (hlen : h.length ≤ 4000) (hl : l.length ≤ 5000) (hlate : late.length ≤ maxLen)
    (hp : ∀ o, o ∈ l → o.parts.length ≤ 5000) : ACallP Try.prog 35 [agesD h old late] (iD (checkO h.length old late l)) := by
  obtain ⟨V, hV⟩ : ∃ V, V = checkO h.length old late l := ⟨_, rfl⟩
  rw [← hV]
  unfold checkO at hV
  refine acallp_fn [2] Try.func35 rfl rfl Try.ntmps35 (by simp) fun R hR => ?_
  (refine awp_reg_seq [1] fun K hK => ?_; (repeat' ((refine al_r rfl fun K' hK' => ?_); (repeat (simp only [go_sem, simprocAttr, List.length_map, bne_self_eq_false])); ((refine hK' _ _ ?_) <;> clear hK' K'))); all_goals (refine al_nil ?_; (simp only [go_sem, simprocAttr, List.length_map, bne_self_eq_false]); refine hK _ ?_; clear hK K))
  (refine awp_frz [1] [] (by decide) (by (simp; done)) ?_; simp only [go_sem, simprocAttr, List.length_map, bne_self_eq_false])
  (refine awp_reg_seq [1, 3, 4] fun K hK => ?_; (repeat' ((refine al_r rfl fun K' hK' => ?_); (repeat (simp only [go_sem, simprocAttr, List.length_map, bne_self_eq_false])); (first | ((refine hK' _ _ ?_) <;> clear hK' K') | ((show AC _ _ (D.fn 15 _) _ _); refine acall_p (f := 15) (e := rfl) (hr := rfl) (k := hK' _ _ ?_) (hc := Try.call15) (h := hob); clear hK' K')))); all_goals (refine al_nil ?_; (simp only [go_sem, simprocAttr, List.length_map, bne_self_eq_false]); refine hK _ ?_; clear hK K))
  refine awp_seq_k fun K hK => ?_
  (refine awp_reg_seq [1, 3, 4, 24] fun K hK => ?_; (repeat' ((refine al_r rfl fun K' hK' => ?_); (repeat (simp only [go_sem, simprocAttr, List.length_map, bne_self_eq_false])); ((refine hK' _ _ ?_) <;> clear hK' K'))); all_goals (refine al_nil ?_; (simp only [go_sem, simprocAttr, List.length_map, bne_self_eq_false]); refine hK _ ?_; clear hK K))
  refine awp_if (_) rfl (fun hc => ?_) (fun hc => ?_)
  · cases hc
  · refine awp_skip ?_
    refine hK _ ?_; clear hK K
    (refine awp_reg_seq [1, 3, 5] fun K hK => ?_; (repeat' ((first | refine al_r rfl fun K' hK' => ?_ | refine al_d rfl fun K' hK' => ?_); (repeat (simp only [go_sem, simprocAttr, List.length_map, bne_self_eq_false])); ((first | refine hK' _ _ ?_ | refine ⟨?_, hK' _ _ ?_⟩) <;> clear hK' K' <;> (first | (show alist _ _ _ _ _ _; skip) | (intro s hs; cases hs; done))))); all_goals (refine al_nil ?_; (simp only [go_sem, simprocAttr, List.length_map, bne_self_eq_false]); refine hK _ ?_; clear hK K))
    have hs0 := starts_nil (h.length : Int)
    refine awp_seq_k fun K hK => ?_
    (refine awp_reg_seq [1, 3, 5, 31, 32, 33] fun K hK => ?_; (repeat' ((refine al_r rfl fun K' hK' => ?_); (repeat (simp only [go_sem, simprocAttr, List.length_map, bne_self_eq_false])); ((first | refine hK' _ _ ?_ | refine ⟨?_, hK' _ _ ?_⟩) <;> clear hK' K' <;> (first | (show alist _ _ _ _ _ _; skip) | (intro s hs; cases hs; done))))); all_goals (refine al_nil ?_; (simp only [go_sem, simprocAttr, List.length_map, bne_self_eq_false]); refine hK _ ?_; clear hK K))
    refine awp_block ?_
    -- loop 0 head [1, 3, 5, 31, 32, 33]
    refine awp_loop_cut (fun m s => ∃ (i : Nat) (es : List (Value × PV)), i ≤ l.length ∧ m = l.length - i ∧ Starts h.length (l.take i) es ∧ s = ⟨ofL [(1, .rd [.sl (h.map wrow), .lit (.int .i64 old), .sl (late.map irow)] 0), (3, objs l), (5, .mp 0), (31, objs l), (32, iD l.length), (33, iD i)], [.map es], 0⟩) ⟨_, 0, _, Nat.zero_le _, rfl, hs0, rfl⟩ ?_
    rintro m s ⟨i, es, hi, hm, hse, rfl⟩
    (refine awp_reg_seq [1, 3, 5, 31, 32, 33, 34] fun K hK => ?_; (repeat' ((refine al_r rfl fun K' hK' => ?_); (repeat (simp only [go_sem, simprocAttr, List.length_map, bne_self_eq_false])); ((refine hK' _ _ ?_) <;> clear hK' K'))); all_goals (refine al_nil ?_; (simp only [go_sem, simprocAttr, List.length_map, bne_self_eq_false]); refine hK _ ?_; clear hK K))
    refine awp_seq_k fun K hK => ?_
    refine awp_if (decide ((i : Int) < (l.length : Int))) rfl (fun hc => ?_) (fun hc => ?_)
    · refine awp_skip ?_
      refine hK _ ?_; clear hK K
      refine awp_seq_k fun K hK => ?_
      refine awp_block ?_
      have hi2 : i < l.length := by simpa using hc
      obtain ⟨o, hget⟩ := get_of_lt hi2
      have hnn : (0 : Int) ≤ (i : Int) := Int.natCast_nonneg i
      have hnx : IntKind.i64.wrap ((i : Int) + 1) = ((i + 1 : Nat) : Int) := by rw [Go.Ab.wrap_small (by omega) (by omega)]; rfl
      have hkeys := hse.1
      have hse2 := starts_snoc hse o
      have htk : l.take (i + 1) = l.take i ++ [o] := by rw [List.take_add_one, hget]; rfl
      rw [← htk] at hse2

      (refine awp_reg_seq [1, 3, 5, 7, 31, 32, 33] fun K hK => ?_; (repeat' ((first | refine al_r rfl fun K' hK' => ?_ | refine al_d rfl fun K' hK' => ?_); (repeat (first | (simp only [go_sem, simprocAttr, hget, hnn, hi2, hnx, Int.toNat_natCast, List.getElem?_map, Option.map_some, List.length_map, hkeys, Obj.row]) | refine AS.mk ?_)); ((first | refine hK' _ _ ?_ | refine ⟨?_, hK' _ _ ?_⟩) <;> clear hK' K' <;> (first | (show alist _ _ _ _ _ _; skip) | (simp; done))))); all_goals (refine al_nil ?_; (simp only [go_sem, simprocAttr, hget, hnn, hi2, hnx, Int.toNat_natCast, List.getElem?_map, Option.map_some, List.length_map, hkeys, Obj.row]); refine hK _ ?_; clear hK K))
      (refine awp_reg_end [1, 3, 5, 31, 32, 33] fun K hK => ?_; (repeat' ((first | refine al_r rfl fun K' hK' => ?_ | refine al_d rfl fun K' hK' => ?_); (repeat (simp only [go_sem, simprocAttr, hget, hnn, hi2, hnx, Int.toNat_natCast, List.getElem?_map, Option.map_some, List.length_map, hkeys, Obj.row])); ((refine hK' _ _ ?_) <;> clear hK' K'))); all_goals (refine al_nil ?_; (simp only [go_sem, simprocAttr, hget, hnn, hi2, hnx, Int.toNat_natCast, List.getElem?_map, Option.map_some, List.length_map, hkeys, Obj.row]); refine hK _ ?_; clear hK K))
      refine hK _ ?_; clear hK K
      (refine awp_reg_end [1, 3, 5, 31, 32, 33] fun K hK => ?_; (repeat' ((refine al_r rfl fun K' hK' => ?_); (repeat (simp only [go_sem, simprocAttr, hget, hnn, hi2, hnx, Int.toNat_natCast, List.getElem?_map, Option.map_some, List.length_map, hkeys, Obj.row])); ((refine hK' _ _ ?_) <;> clear hK' K'))); all_goals (refine al_nil ?_; (simp only [go_sem, simprocAttr, hget, hnn, hi2, hnx, Int.toNat_natCast, List.getElem?_map, Option.map_some, List.length_map, hkeys, Obj.row]); refine hK _ ?_; clear hK K))
      exact ⟨l.length - (i + 1), by omega, [1, 3, 5, 31, 32, 33], [0], by decide, by intro q hq; exact absurd hq (Nat.not_lt_zero q), i + 1, _, hi2, rfl, hse2, rfl⟩

    · have hie : i = l.length := by simp at hc; omega
      rw [hie, List.take_length] at hse
      clear hs0
      obtain ⟨beg, hbeg⟩ : ∃ beg, beg = begS (h.length : Int) l := ⟨_, rfl⟩
      rw [← hbeg] at hV
      have hmg : ∀ t, mget es t = if beg t then some (.lit (.bool true)) else none := by rw [hbeg]; exact hse.2
      have hkeys := hse.1
      clear hse hbeg
      obtain ⟨A, hA⟩ : ∃ A, decide (old < 0) = A := ⟨_, rfl⟩
      have hmo := hmg old
      obtain ⟨B, hB⟩ : ∃ B, beg old = B := ⟨_, rfl⟩
      rw [hB] at hmo
      rw [hA, hB] at hV

      refine awp_exit ?_
      clear hK
      refine hK _ ?_; clear hK K
      refine awp_seq_k fun K hK => ?_
      refine awp_reg_tov [1, 3, 5, 50] [(50, bD (A || !B))] (h := ?_) (k := ?_)
      · cases A <;> cases B
        all_goals ((repeat' (first | ((first | refine al_r rfl fun K' hK' => ?_ | refine al_t rfl rfl fun K' hK' => ?_); (repeat (simp only [go_sem, simprocAttr, List.length_map, hA, hkeys, hmo])); ((refine hK' _ _ ?_) <;> clear hK' K')) | refine al_e rfl rfl ?_)); all_goals (refine al_nil ?_; (simp only [go_sem, simprocAttr, List.length_map, hA, hkeys, hmo, *, Bool.and_true, Bool.and_false, Bool.true_and, Bool.false_and, Bool.or_true, Bool.true_or, Bool.or_false, Bool.false_or, Bool.not_true, Bool.not_false, Bool.false_eq_true]; done)))
      (intro K hK; (simp only [go_sem, simprocAttr, List.length_map, hA, hkeys, hmo]); refine hK _ ?_; clear hK K)
      refine awp_if (A || !B) rfl (fun hc => ?_) (fun hc => ?_)
      · (refine awp_reg_seq [2] fun K hK => ?_; (repeat' ((refine al_r rfl fun K' hK' => ?_); (repeat (simp only [go_sem, simprocAttr, List.length_map, hA, hkeys, hmo])); ((refine hK' _ _ ?_) <;> clear hK' K'))); all_goals (refine al_nil ?_; (simp only [go_sem, simprocAttr, List.length_map, hA, hkeys, hmo]); refine hK _ ?_; clear hK K))
        refine awp_ret ?_; (refine hR _ _ (.inl rfl) rfl ?_)
        rw [if_pos hc] at hV
        rw [hV]
        simp only [go_sem, simprocAttr, List.length_map, hA, hkeys, hmo]
      · rw [if_neg (by rw [hc]; simp)] at hV
        obtain ⟨X, hX⟩ : ∃ X, X = lateF old beg none late := ⟨_, rfl⟩
        rw [← hX] at hV

        refine awp_skip ?_
        refine hK _ ?_; clear hK K
        refine awp_seq_k fun K hK => ?_
        (refine awp_reg_seq [1, 3, 5, 52, 53, 54] fun K hK => ?_; (repeat' ((refine al_r rfl fun K' hK' => ?_); (repeat (simp only [go_sem, simprocAttr, List.length_map])); ((first | refine hK' _ _ ?_ | refine ⟨?_, hK' _ _ ?_⟩) <;> clear hK' K' <;> (first | (show alist _ _ _ _ _ _; skip) | (intro s hs; cases hs; done))))); all_goals (refine al_nil ?_; (simp only [go_sem, simprocAttr, List.length_map]); refine hK _ ?_; clear hK K))
        refine awp_block ?_
        -- loop 1 head [1, 3, 5, 52, 53, 54]
        refine awp_loop_cut (fun m s => ∃ (i : Nat) (pv : Option Int), i ≤ late.length ∧ m = late.length - i ∧ pv = (if i = 0 then none else late[i - 1]?) ∧ X = lateF old beg pv (late.drop i) ∧ s = ⟨ofL [(1, .rd [.sl (h.map wrow), .lit (.int .i64 old), .sl (late.map irow)] 0), (3, objs l), (5, .mp 0), (52, ints late), (53, iD late.length), (54, iD i)], [.map es], 0⟩) ⟨_, 0, _, Nat.zero_le _, rfl, rfl, hX, rfl⟩ ?_
        clear hX
        rintro m s ⟨i, pv, hi, hm, hpv, hX, rfl⟩
        (refine awp_reg_seq [1, 3, 5, 52, 53, 54, 55] fun K hK => ?_; (repeat' ((refine al_r rfl fun K' hK' => ?_); (repeat (simp only [go_sem, simprocAttr, List.length_map])); ((refine hK' _ _ ?_) <;> clear hK' K'))); all_goals (refine al_nil ?_; (simp only [go_sem, simprocAttr, List.length_map]); refine hK _ ?_; clear hK K))
        refine awp_seq_k fun K hK => ?_
        refine awp_if (decide ((i : Int) < (late.length : Int))) rfl (fun hc => ?_) (fun hc => ?_)
        · refine awp_skip ?_
          refine hK _ ?_; clear hK K
          refine awp_seq_k fun K hK => ?_
          refine awp_block ?_
          have hi2 : i < late.length := by simpa using hc
          obtain ⟨t, hget⟩ := get_of_lt hi2
          have hnn : (0 : Int) ≤ (i : Int) := Int.natCast_nonneg i
          have hnx : IntKind.i64.wrap ((i : Int) + 1) = ((i + 1 : Nat) : Int) := wrap_next hi2 hlate
          rw [drop_of hget] at hX
          have hX2 : X = ((decide (t ≥ old) || !beg t || prevB pv t) || lateF old beg (some t) (late.drop (i + 1))) := hX
          clear hX
          obtain ⟨I, p, hI, hp1, hb1, hb2, hpm⟩ : ∃ (I : Bool) (p : Int), decide ((i : Int) > 0) = I ∧ late[(IntKind.i64.wrap ((i : Int) - 1)).toNat]? = some p ∧ (I = true → 0 ≤ IntKind.i64.wrap ((i : Int) - 1)) ∧ (I = true → IntKind.i64.wrap ((i : Int) - 1) < (late.length : Int)) ∧ prevB pv t = (I && decide (p ≥ t)) := by
            rcases i with _ | k
            · refine ⟨false, t, rfl, ?_, fun h => (by cases h), fun h => (by cases h), (by rw [hpv]; rfl)⟩
              have : IntKind.i64.wrap (((0 : Nat) : Int) - 1) = -1 := by decide
              rw [this]; exact hget
            · obtain ⟨p, hp⟩ := get_of_lt (l := late) (i := k) (by omega)
              have hk : IntKind.i64.wrap (((k + 1 : Nat) : Int) - 1) = (k : Int) := by rw [Go.Ab.wrap_small (by omega) (by simp [maxLen] at hlate; omega)]; simp
              rw [hk]
              refine ⟨true, p, by simp, hp, fun _ => by omega, fun _ => by omega, ?_⟩
              rw [hpv, if_neg (by omega)]
              show prevB late[k]? t = _
              rw [hp]; simp [prevB]
          rw [hpm] at hX2
          clear hpm
          have hmt := hmg t
          obtain ⟨A, hA⟩ : ∃ A, decide (t ≥ old) = A := ⟨_, rfl⟩
          obtain ⟨B, hB⟩ : ∃ B, beg t = B := ⟨_, rfl⟩
          rw [hB] at hmt
          rw [hA, hB] at hX2

          (refine awp_reg_seq [1, 3, 5, 8, 9, 52, 53, 54] fun K hK => ?_; (repeat' ((refine al_r rfl fun K' hK' => ?_); (repeat (simp only [go_sem, simprocAttr, hget, hnn, hi2, hnx, Int.toNat_natCast, List.getElem?_map, Option.map_some, List.length_map, hkeys, hA, hI, hp1, hb1, hb2, hmt])); ((refine hK' _ _ ?_) <;> clear hK' K'))); all_goals (refine al_nil ?_; (simp only [go_sem, simprocAttr, hget, hnn, hi2, hnx, Int.toNat_natCast, List.getElem?_map, Option.map_some, List.length_map, hkeys, hA, hI, hp1, hb1, hb2, hmt]); refine hK _ ?_; clear hK K))
          refine awp_reg_tov [1, 3, 5, 52, 53, 54, 82] [(82, bD (A || !B || (I && decide (p ≥ t))))] (h := ?_) (k := ?_)
          · cases A <;> cases B <;> cases I
            all_goals ((repeat' (first | ((first | refine al_r rfl fun K' hK' => ?_ | refine al_t rfl rfl fun K' hK' => ?_); (repeat (simp only [go_sem, simprocAttr, hget, hnn, hi2, hnx, Int.toNat_natCast, List.getElem?_map, Option.map_some, List.length_map, hkeys, hA, hI, hp1, hb1, hb2, hmt])); ((refine hK' _ _ ?_) <;> clear hK' K')) | refine al_e rfl rfl ?_ | refine al_u rfl rfl ?_)); all_goals (refine al_nil ?_; (simp only [go_sem, simprocAttr, hget, hnn, hi2, hnx, Int.toNat_natCast, List.getElem?_map, Option.map_some, List.length_map, hkeys, hA, hI, hp1, hb1, hb2, hmt, *, Bool.and_true, Bool.and_false, Bool.true_and, Bool.false_and, Bool.or_true, Bool.true_or, Bool.or_false, Bool.false_or, Bool.not_true, Bool.not_false, Bool.false_eq_true]; done)))
          (intro K hK; (simp only [go_sem, simprocAttr, hget, hnn, hi2, hnx, Int.toNat_natCast, List.getElem?_map, Option.map_some, List.length_map, hkeys, hA, hI, hp1, hb1, hb2, hmt]); refine hK _ ?_; clear hK K)
          refine awp_if (A || !B || (I && decide (p ≥ t))) rfl (fun hc => ?_) (fun hc => ?_)
          · (refine awp_reg_seq [2] fun K hK => ?_; (repeat' ((refine al_r rfl fun K' hK' => ?_); (repeat (simp only [go_sem, simprocAttr, hget, hnn, hi2, hnx, Int.toNat_natCast, List.getElem?_map, Option.map_some, List.length_map, hkeys, hA, hI, hp1, hb1, hb2, hmt])); ((refine hK' _ _ ?_) <;> clear hK' K'))); all_goals (refine al_nil ?_; (simp only [go_sem, simprocAttr, hget, hnn, hi2, hnx, Int.toNat_natCast, List.getElem?_map, Option.map_some, List.length_map, hkeys, hA, hI, hp1, hb1, hb2, hmt]); refine hK _ ?_; clear hK K))
            refine awp_ret ?_; (refine hR _ _ (.inl rfl) rfl ?_)
            rw [hX2, hc, Bool.true_or, if_pos rfl] at hV
            rw [hV]
            simp only [go_sem, simprocAttr, hget, hnn, hi2, hnx, Int.toNat_natCast, List.getElem?_map, Option.map_some, List.length_map, hkeys, hA, hI, hp1, hb1, hb2, hmt]
          · rw [hc, Bool.false_or] at hX2
            refine awp_skip ?_
            refine hK _ ?_; clear hK K
            (refine awp_reg_end [1, 3, 5, 52, 53, 54] fun K hK => ?_; (repeat' ((refine al_r rfl fun K' hK' => ?_); (repeat (simp only [go_sem, simprocAttr, hget, hnn, hi2, hnx, Int.toNat_natCast, List.getElem?_map, Option.map_some, List.length_map, hkeys, hA, hI, hp1, hb1, hb2, hmt])); ((refine hK' _ _ ?_) <;> clear hK' K'))); all_goals (refine al_nil ?_; (simp only [go_sem, simprocAttr, hget, hnn, hi2, hnx, Int.toNat_natCast, List.getElem?_map, Option.map_some, List.length_map, hkeys, hA, hI, hp1, hb1, hb2, hmt]); refine hK _ ?_; clear hK K))
            exact ⟨late.length - (i + 1), by omega, [1, 3, 5, 52, 53, 54], [0], by decide, by intro q hq; exact absurd hq (Nat.not_lt_zero q), i + 1, some t, hi2, rfl, by rw [if_neg (by omega)]; exact hget.symm, hX2, rfl⟩

        · have hie : i = late.length := by simp at hc; omega
          rw [hie, List.drop_length] at hX
          have hX0 : X = false := by rw [hX]; cases pv <;> rfl
          rw [hX0, if_neg (by simp)] at hV
          refine awp_exit ?_
          clear hK
          refine hK _ ?_; clear hK K
          refine awp_seq_k fun K hK => ?_
          (refine awp_reg_seq [1, 5, 84, 85, 86] fun K hK => ?_; (repeat' ((refine al_r rfl fun K' hK' => ?_); (repeat (simp only [go_sem, simprocAttr, List.length_map])); ((first | refine hK' _ _ ?_ | refine ⟨?_, hK' _ _ ?_⟩) <;> clear hK' K' <;> (first | (show alist _ _ _ _ _ _; skip) | (intro s hs; cases hs; done))))); all_goals (refine al_nil ?_; (simp only [go_sem, simprocAttr, List.length_map]); refine hK _ ?_; clear hK K))
          refine awp_block ?_
          -- loop 2 head [1, 5, 84, 85, 86]
          refine awp_loop_cut (fun m s => ∃ i : Nat, i ≤ l.length ∧ m = l.length - i ∧ V = firstE (fun o => firstE (partE h.length old beg late o) o.parts) (l.drop i) ∧ s = ⟨ofL [(1, .rd [.sl (h.map wrow), .lit (.int .i64 old), .sl (late.map irow)] 0), (5, .mp 0), (84, objs l), (85, iD l.length), (86, iD i)], [.map es], 0⟩) ⟨_, 0, Nat.zero_le _, rfl, hV, rfl⟩ ?_
          clear hV
          rintro m s ⟨i, hi, hm, hV, rfl⟩
          (refine awp_reg_seq [1, 5, 84, 85, 86, 87] fun K hK => ?_; (repeat' ((refine al_r rfl fun K' hK' => ?_); (repeat (simp only [go_sem, simprocAttr, List.length_map])); ((refine hK' _ _ ?_) <;> clear hK' K'))); all_goals (refine al_nil ?_; (simp only [go_sem, simprocAttr, List.length_map]); refine hK _ ?_; clear hK K))
          refine awp_seq_k fun K hK => ?_
          refine awp_if (decide ((i : Int) < (l.length : Int))) rfl (fun hc => ?_) (fun hc => ?_)
          · refine awp_skip ?_
            refine hK _ ?_; clear hK K
            refine awp_seq_k fun K hK => ?_
            refine awp_block ?_
            have hi2 : i < l.length := by simpa using hc
            obtain ⟨o, hget⟩ := get_of_lt hi2
            have hnn : (0 : Int) ≤ (i : Int) := Int.natCast_nonneg i
            have hnx : IntKind.i64.wrap ((i : Int) + 1) = ((i + 1 : Nat) : Int) := by rw [Go.Ab.wrap_small (by omega) (by omega)]; rfl
            rw [drop_of hget] at hV
            obtain ⟨Y, hY⟩ : ∃ Y, Y = firstE (partE h.length old beg late o) o.parts := ⟨_, rfl⟩
            have hV2 : V = if Y != 0 then Y else firstE (fun o => firstE (partE h.length old beg late o) o.parts) (l.drop (i + 1)) := by rw [hV, hY]; rfl
            clear hV
            have hop := hp o (List.mem_of_getElem? hget)

            (refine awp_reg_seq [1, 5, 11, 84, 85, 86] fun K hK => ?_; (repeat' ((first | refine al_r rfl fun K' hK' => ?_ | refine al_d rfl fun K' hK' => ?_); (repeat (first | (simp only [go_sem, simprocAttr, hget, hnn, hi2, Int.toNat_natCast, List.getElem?_map, Option.map_some, List.length_map, Obj.row]) | refine AS.mk ?_)); ((first | refine hK' _ _ ?_ | refine ⟨?_, hK' _ _ ?_⟩) <;> clear hK' K' <;> (first | (show alist _ _ _ _ _ _; skip) | (simp; done))))); all_goals (refine al_nil ?_; (simp only [go_sem, simprocAttr, hget, hnn, hi2, Int.toNat_natCast, List.getElem?_map, Option.map_some, List.length_map, Obj.row]); refine hK _ ?_; clear hK K))
            (refine awp_frz [1, 5, 11, 84, 85, 86] [0] (by decide) (by (simp; done)) ?_; simp only [go_sem, simprocAttr, hget, hnn, hi2, Int.toNat_natCast, List.getElem?_map, Option.map_some, List.length_map, Obj.row])
            (refine awp_reg_seq [1, 5, 11, 84, 85, 86, 91, 92, 93] fun K hK => ?_; (repeat' ((refine al_r rfl fun K' hK' => ?_); (repeat (simp only [go_sem, simprocAttr, hget, hnn, hi2, Int.toNat_natCast, List.getElem?_map, Option.map_some, List.length_map, Obj.row])); ((first | refine hK' _ _ ?_ | refine ⟨?_, hK' _ _ ?_⟩) <;> clear hK' K' <;> (first | (show alist _ _ _ _ _ _; skip) | (intro s hs; cases hs; done))))); all_goals (refine al_nil ?_; (simp only [go_sem, simprocAttr, hget, hnn, hi2, Int.toNat_natCast, List.getElem?_map, Option.map_some, List.length_map, Obj.row]); refine hK _ ?_; clear hK K))
            refine awp_block ?_
            -- loop 3 head [1, 5, 11, 84, 85, 86, 91, 92, 93]
            refine awp_loop_cut (fun m s => ∃ j : Nat, j ≤ o.parts.length ∧ m = o.parts.length - j ∧ Y = firstE (partE h.length old beg late o) (o.parts.drop j) ∧ s = ⟨ofL [(1, .rd [.sl (h.map wrow), .lit (.int .i64 old), .sl (late.map irow)] 0), (5, .mp 0), (11, .rd [.lit (.int .i64 o.at_), .lit (.int .i64 o.kind), .lit (.int .i64 o.num), .lit (.string o.text), .sl (o.parts.map wrow)] 0), (84, objs l), (85, iD l.length), (86, iD i), (91, words o.parts), (92, iD o.parts.length), (93, iD j)], [.map es], 0⟩) ⟨_, 0, Nat.zero_le _, rfl, hY, rfl⟩ ?_
            clear hY
            rintro m s ⟨j, hj, hmj, hY, rfl⟩
            (refine awp_reg_seq [1, 5, 11, 84, 85, 86, 91, 92, 93, 94] fun K hK => ?_; (repeat' ((refine al_r rfl fun K' hK' => ?_); (repeat (simp only [go_sem, simprocAttr, hget, hnn, hi2, Int.toNat_natCast, List.getElem?_map, Option.map_some, List.length_map, Obj.row])); ((refine hK' _ _ ?_) <;> clear hK' K'))); all_goals (refine al_nil ?_; (simp only [go_sem, simprocAttr, hget, hnn, hi2, Int.toNat_natCast, List.getElem?_map, Option.map_some, List.length_map, Obj.row]); refine hK _ ?_; clear hK K))
            refine awp_seq_k fun K hK => ?_
            refine awp_if (decide ((j : Int) < (o.parts.length : Int))) rfl (fun hc => ?_) (fun hc => ?_)
            · refine awp_skip ?_
              refine hK _ ?_; clear hK K
              refine awp_seq_k fun K hK => ?_
              refine awp_block ?_
              have hj2 : j < o.parts.length := by simpa using hc
              obtain ⟨w, hgetw⟩ := get_of_lt hj2
              have hjn : (0 : Int) ≤ (j : Int) := Int.natCast_nonneg j
              have hjx : IntKind.i64.wrap ((j : Int) + 1) = ((j + 1 : Nat) : Int) := by rw [Go.Ab.wrap_small (by omega) (by omega)]; rfl
              rw [drop_of hgetw] at hY
              have hY2 : Y = if partE h.length old beg late o w != 0 then partE h.length old beg late o w else firstE (partE h.length old beg late o) (o.parts.drop (j + 1)) := hY
              clear hY
              have hpl := placeW w
              obtain ⟨W, hW⟩ : ∃ W, W = partE (h.length : Int) old beg late o w := ⟨_, rfl⟩
              rw [← hW] at hY2
              unfold partE at hW
              have hcon := contains late hlate o.at_
              rw [firstAt_nonneg] at hcon
              rw [show (late.any fun m => o.at_ == m) = hasI late o.at_ from rfl] at hcon
              generalize placeS w = P at hpl hW
              obtain ⟨at2, Is, pe⟩ := P
              simp only at hpl hW
              have hmt := hmg at2
              obtain ⟨E, hE⟩ : ∃ E, (pe != 0) = E := ⟨_, rfl⟩
              obtain ⟨Q, hQ⟩ : ∃ Q, (at2 == (h.length : Int)) = Q := ⟨_, rfl⟩
              obtain ⟨B, hB⟩ : ∃ B, beg at2 = B := ⟨_, rfl⟩
              obtain ⟨X1, hX1⟩ : ∃ X1, decide (o.at_ < old) = X1 := ⟨_, rfl⟩
              obtain ⟨Y1, hY1⟩ : ∃ Y1, decide (at2 ≥ old) = Y1 := ⟨_, rfl⟩
              generalize hasI late o.at_ = Z at hcon hW
              rw [hB] at hmt
              rw [hE, hQ, hB, hX1, hY1] at hW

              (refine awp_reg_seq [1, 5, 11, 13, 84, 85, 86, 91, 92, 93] fun K hK => ?_; (repeat' ((refine al_r rfl fun K' hK' => ?_); (repeat (simp only [go_sem, simprocAttr, hgetw, hjn, hj2, hjx, Int.toNat_natCast, List.getElem?_map, Option.map_some, List.length_map, hkeys, hE, hQ, hmt, hX1, hY1])); ((refine hK' _ _ ?_) <;> clear hK' K'))); all_goals (refine al_nil ?_; (simp only [go_sem, simprocAttr, hgetw, hjn, hj2, hjx, Int.toNat_natCast, List.getElem?_map, Option.map_some, List.length_map, hkeys, hE, hQ, hmt, hX1, hY1]); refine hK _ ?_; clear hK K))
              (refine awp_reg_seq [1, 5, 11, 14, 15, 16, 84, 85, 86, 91, 92, 93] fun K hK => ?_; (repeat' ((refine al_r rfl fun K' hK' => ?_); (repeat (simp only [go_sem, simprocAttr, hgetw, hjn, hj2, hjx, Int.toNat_natCast, List.getElem?_map, Option.map_some, List.length_map, hkeys, hE, hQ, hmt, hX1, hY1])); (first | ((refine hK' _ _ ?_) <;> clear hK' K') | ((show AC _ _ (D.fn 68 _) _ _); refine acall_p (f := 68) (e := rfl) (hr := rfl) (k := hK' _ _ ?_) (hc := Try.call68) (h := hpl); clear hK' K')))); all_goals (refine al_nil ?_; (simp only [go_sem, simprocAttr, hgetw, hjn, hj2, hjx, Int.toNat_natCast, List.getElem?_map, Option.map_some, List.length_map, hkeys, hE, hQ, hmt, hX1, hY1]); refine hK _ ?_; clear hK K))
              refine awp_seq_k fun K hK => ?_
              refine awp_reg_tov [1, 5, 11, 14, 15, 84, 85, 86, 91, 92, 93, 120] [(120, bD (E || (Is && (Q || !B))))] (h := ?_) (k := ?_)
              · cases E <;> cases Is <;> cases Q <;> cases B
                all_goals ((repeat' (first | ((first | refine al_r rfl fun K' hK' => ?_ | refine al_t rfl rfl fun K' hK' => ?_); (repeat (simp only [go_sem, simprocAttr, hgetw, hjn, hj2, hjx, Int.toNat_natCast, List.getElem?_map, Option.map_some, List.length_map, hkeys, hE, hQ, hmt, hX1, hY1])); ((first | refine hK' _ _ ?_ | refine ⟨?_, hK' _ _ ?_⟩) <;> clear hK' K' <;> (first | (show alist _ _ _ _ _ _; skip) | (intro s hs; cases hs; done)))) | refine al_e rfl rfl ?_ | refine al_u rfl rfl ?_)); all_goals (refine al_nil ?_; (simp only [go_sem, simprocAttr, hgetw, hjn, hj2, hjx, Int.toNat_natCast, List.getElem?_map, Option.map_some, List.length_map, hkeys, hE, hQ, hmt, hX1, hY1, *, Bool.and_true, Bool.and_false, Bool.true_and, Bool.false_and, Bool.or_true, Bool.true_or, Bool.or_false, Bool.false_or, Bool.not_true, Bool.not_false, Bool.false_eq_true]; done)))
              (intro K hK; (simp only [go_sem, simprocAttr, hgetw, hjn, hj2, hjx, Int.toNat_natCast, List.getElem?_map, Option.map_some, List.length_map, hkeys, hE, hQ, hmt, hX1, hY1]); refine hK _ ?_; clear hK K)
              refine awp_if (E || (Is && (Q || !B))) rfl (fun hc => ?_) (fun hc => ?_)
              · (refine awp_reg_seq [2] fun K hK => ?_; (repeat' ((refine al_r rfl fun K' hK' => ?_); (repeat (simp only [go_sem, simprocAttr, hgetw, hjn, hj2, hjx, Int.toNat_natCast, List.getElem?_map, Option.map_some, List.length_map, hkeys, hE, hQ, hmt, hX1, hY1])); ((refine hK' _ _ ?_) <;> clear hK' K'))); all_goals (refine al_nil ?_; (simp only [go_sem, simprocAttr, hgetw, hjn, hj2, hjx, Int.toNat_natCast, List.getElem?_map, Option.map_some, List.length_map, hkeys, hE, hQ, hmt, hX1, hY1]); refine hK _ ?_; clear hK K))
                refine awp_ret ?_; (refine hR _ _ (.inl rfl) rfl ?_)
                rw [if_pos hc] at hW
                rw [hW, if_pos (by decide)] at hY2
                rw [hY2, if_pos (by decide)] at hV2
                rw [hV2]
                simp only [go_sem, simprocAttr, hgetw, hjn, hj2, hjx, Int.toNat_natCast, List.getElem?_map, Option.map_some, List.length_map, hkeys, hE, hQ, hmt, hX1, hY1]
              · rw [if_neg (by rw [hc]; simp)] at hW
                refine awp_skip ?_
                refine hK _ ?_; clear hK K
                refine awp_reg_tov [1, 5, 11, 84, 85, 86, 91, 92, 93, 142] [(142, bD (Is && X1 && Y1 && !Z))] (h := ?_) (k := ?_)
                · cases Is <;> cases X1 <;> cases Y1
                  all_goals ((repeat' (first | ((first | refine al_r rfl fun K' hK' => ?_ | refine al_t rfl rfl fun K' hK' => ?_); (repeat (simp only [go_sem, simprocAttr, hgetw, hjn, hj2, hjx, Int.toNat_natCast, List.getElem?_map, Option.map_some, List.length_map, hkeys, hE, hQ, hmt, hX1, hY1])); (first | ((refine hK' _ _ ?_) <;> clear hK' K') | ((show AC _ _ (D.fn 32 _) _ _); refine acall_p (f := 32) (e := rfl) (hr := rfl) (k := hK' _ _ ?_) (hc := Try.call32) (h := hcon); clear hK' K'))) | refine al_e rfl rfl ?_)); all_goals (refine al_nil ?_; (simp only [go_sem, simprocAttr, hgetw, hjn, hj2, hjx, Int.toNat_natCast, List.getElem?_map, Option.map_some, List.length_map, hkeys, hE, hQ, hmt, hX1, hY1, *, Bool.and_true, Bool.and_false, Bool.true_and, Bool.false_and, Bool.or_true, Bool.true_or, Bool.or_false, Bool.false_or, Bool.not_true, Bool.not_false, Bool.false_eq_true]; done)))
                (intro K hK; (simp only [go_sem, simprocAttr, hgetw, hjn, hj2, hjx, Int.toNat_natCast, List.getElem?_map, Option.map_some, List.length_map, hkeys, hE, hQ, hmt, hX1, hY1]); refine hK _ ?_; clear hK K)
                refine awp_if (Is && X1 && Y1 && !Z) rfl (fun hc => ?_) (fun hc => ?_)
                · (refine awp_reg_seq [2] fun K hK => ?_; (repeat' ((refine al_r rfl fun K' hK' => ?_); (repeat (simp only [go_sem, simprocAttr, hgetw, hjn, hj2, hjx, Int.toNat_natCast, List.getElem?_map, Option.map_some, List.length_map, hkeys, hE, hQ, hmt, hX1, hY1])); ((refine hK' _ _ ?_) <;> clear hK' K'))); all_goals (refine al_nil ?_; (simp only [go_sem, simprocAttr, hgetw, hjn, hj2, hjx, Int.toNat_natCast, List.getElem?_map, Option.map_some, List.length_map, hkeys, hE, hQ, hmt, hX1, hY1]); refine hK _ ?_; clear hK K))
                  refine awp_ret ?_; (refine hR _ _ (.inl rfl) rfl ?_)
                  rw [if_pos hc] at hW
                  rw [hW, if_pos (by decide)] at hY2
                  rw [hY2, if_pos (by decide)] at hV2
                  rw [hV2]
                  simp only [go_sem, simprocAttr, hgetw, hjn, hj2, hjx, Int.toNat_natCast, List.getElem?_map, Option.map_some, List.length_map, hkeys, hE, hQ, hmt, hX1, hY1]
                · rw [if_neg (by rw [hc]; simp)] at hW
                  rw [hW, if_neg (by decide)] at hY2
                  refine awp_skip ?_
                  refine hK _ ?_; clear hK K
                  (refine awp_reg_end [1, 5, 11, 84, 85, 86, 91, 92, 93] fun K hK => ?_; (repeat' ((refine al_r rfl fun K' hK' => ?_); (repeat (simp only [go_sem, simprocAttr, hgetw, hjn, hj2, hjx, Int.toNat_natCast, List.getElem?_map, Option.map_some, List.length_map, hkeys, hE, hQ, hmt, hX1, hY1])); ((refine hK' _ _ ?_) <;> clear hK' K'))); all_goals (refine al_nil ?_; (simp only [go_sem, simprocAttr, hgetw, hjn, hj2, hjx, Int.toNat_natCast, List.getElem?_map, Option.map_some, List.length_map, hkeys, hE, hQ, hmt, hX1, hY1]); refine hK _ ?_; clear hK K))
                  exact ⟨o.parts.length - (j + 1), by omega, [1, 5, 11, 84, 85, 86, 91, 92, 93], [0], by decide, by intro q hq; exact absurd hq (Nat.not_lt_zero q), j + 1, hj2, rfl, hY2, rfl⟩

            · have hje : j = o.parts.length := by simp at hc; omega
              rw [hje, List.drop_length] at hY
              have hY0 : Y = 0 := hY
              rw [hY0, if_neg (by decide)] at hV2
              refine awp_exit ?_
              clear hK
              refine hK _ ?_; clear hK K
              (refine awp_reg_end [1, 5, 84, 85, 86] fun K hK => ?_; (repeat' ((refine al_r rfl fun K' hK' => ?_); (repeat (simp only [go_sem, simprocAttr, hnx])); ((refine hK' _ _ ?_) <;> clear hK' K'))); all_goals (refine al_nil ?_; (simp only [go_sem, simprocAttr, hnx]); refine hK _ ?_; clear hK K))
              exact ⟨l.length - (i + 1), by omega, [1, 5, 84, 85, 86], [0], by decide, by intro q hq; exact absurd hq (Nat.not_lt_zero q), i + 1, hi2, rfl, hV2, rfl⟩

          · have hie : i = l.length := by simp at hc; omega
            rw [hie, List.drop_length] at hV
            have hV0 : V = 0 := hV
            refine awp_exit ?_
            clear hK
            refine hK _ ?_; clear hK K
            (refine awp_reg_seq [2] fun K hK => ?_; (repeat' ((refine al_r rfl fun K' hK' => ?_); (repeat (simp only [go_sem, simprocAttr, List.length_map])); ((refine hK' _ _ ?_) <;> clear hK' K'))); all_goals (refine al_nil ?_; (simp only [go_sem, simprocAttr, List.length_map]); refine hK _ ?_; clear hK K))
            refine awp_ret ?_; (refine hR _ _ (.inl rfl) rfl ?_)
            rw [hV0]
            simp only [go_sem, simprocAttr, List.length_map]
end Go.Proofs.Ytagphggcdmjlpaa.P

/- Does an object begin at a place; do words name objects: contracts. -/
namespace Go.Proofs.Ytagphggcdmjlpaa.P
open Go.Ab Go.Proofs.Ytagphggcdmjlpaa.T


theorem indexO (ls : List Obj) (hlen : ls.length ≤ maxLen) (f : FuncId) (caps : List D) (p : Obj → Bool) (obs : List Ob) (ids : List Nat) (hub : ∀ o, o ∈ obs → o ≠ .unborn) (hd : ids.Nodup) (hp : ∀ k, k < obs.length → ids[k]? = some k)
    (hcap : caps.map (D.map (ren1 ids)) = caps) (hob : newObs obs ids = obs) (hm : merge obs ids obs = obs) (hlt : ∀ i, i ∈ ids → i < obs.length) (hl : ids.length ≤ obs.length)
    (hcf : ∀ args w, (callFunc f args).run Try.prog w = .ok (.enter f args) w) (h : ∀ n, n ∈ ls → ACallO Try.prog f (objD n :: caps) obs (bD (p n))) :
    ACallO Try.prog 110 [objs ls, .fn f caps] obs (iD (firstAt p ls)) := by
  refine acallo_fn [4] ids Try.func110 rfl rfl Try.ntmps110 (by simp) hub hd hp fun R hR => ?_
  (refine awp_reg_seq [0, 1] fun K hK => ?_; (repeat' ((refine al_r rfl fun K' hK' => ?_); (repeat (simp only [go_sem, simprocAttr, List.length_map])); ((refine hK' _ _ ?_) <;> clear hK' K'))); all_goals (refine al_nil ?_; (simp only [go_sem, simprocAttr, List.length_map]); refine hK _ ?_; clear hK K))
  refine awp_seq_k fun K hK => ?_
  (refine awp_reg_seq [0, 1, 7, 8] fun K hK => ?_; (repeat' ((refine al_r rfl fun K' hK' => ?_); (repeat (simp only [go_sem, simprocAttr, List.length_map])); ((first | refine hK' _ _ ?_ | refine ⟨?_, hK' _ _ ?_⟩) <;> clear hK' K' <;> (first | (show alist _ _ _ _ _ _; skip) | (intro s hs; cases hs; done))))); all_goals (refine al_nil ?_; (simp only [go_sem, simprocAttr, List.length_map]); refine hK _ ?_; clear hK K))
  refine awp_block ?_
  refine awp_loop (fun m s => ∃ i : Nat, i ≤ ls.length ∧ m = ls.length - i ∧ (∀ j, j < i → ∀ y, ls[j]? = some y → p y = false) ∧ s = ⟨ofL [(0, objs ls), (1, .fn f caps), (7, iD ls.length), (8, iD i)], obs, obs.length⟩) ⟨_, 0, Nat.zero_le _, rfl, fun j hj => absurd hj (by omega), rfl⟩ ?_
  rintro m s ⟨i, hi, rfl, hbefore, rfl⟩
  (refine awp_reg_seq [0, 1, 7, 8, 9] fun K hK => ?_; (repeat' ((refine al_r rfl fun K' hK' => ?_); (repeat (simp only [go_sem, simprocAttr, List.length_map])); ((refine hK' _ _ ?_) <;> clear hK' K'))); all_goals (refine al_nil ?_; (simp only [go_sem, simprocAttr, List.length_map]); refine hK _ ?_; clear hK K))
  refine awp_seq_k fun K hK => ?_
  refine awp_if (decide ((i : Int) < ls.length)) rfl (fun hc => ?_) (fun hc => ?_)
  · refine awp_skip ?_
    refine hK _ ?_; clear hK K
    have hi2 : i < ls.length := by simpa using hc
    obtain ⟨n, hget⟩ : ∃ n, ls[i]? = some n := ⟨_, List.getElem?_eq_getElem hi2⟩
    have hnn : (0 : Int) ≤ (i : Int) := Int.natCast_nonneg i

    refine awp_seq_k fun K hK => ?_
    refine awp_block ?_
    (refine awp_reg_seq [0, 1, 5, 7, 8] fun K hK => ?_; (repeat' ((refine al_r rfl fun K' hK' => ?_); (repeat (simp only [go_sem, simprocAttr, hget, hnn, List.getElem?_map, Int.toNat_natCast, Option.map_some, Obj.row])); ((refine hK' _ _ ?_) <;> clear hK' K'))); all_goals (refine al_nil ?_; (simp only [go_sem, simprocAttr, hget, hnn, List.getElem?_map, Int.toNat_natCast, Option.map_some, Obj.row]); refine hK _ ?_; clear hK K))
    refine awp_reg_seq [0, 1, 5, 7, 8, 16] fun K hK => ?_
    repeat' ((refine al_r rfl fun K' hK' => ?_); (repeat (simp only [go_sem, simprocAttr, hget, hnn, List.getElem?_map, Int.toNat_natCast, Option.map_some, Obj.row])); ((refine hK' _ _ ?_) <;> clear hK' K'))
    · refine al_run rfl rfl (by decide) fun K' hK' => ?_
      simp only [go_sem, simprocAttr, hget, hnn, List.getElem?_map, Int.toNat_natCast, Option.map_some, Obj.row]
      refine acall_o ids hcf (h n (List.mem_of_getElem? hget)) (by simpa [D.map, D.mapL, ren1] using hcap) hob hm hd hlt hl rfl (hK' _ _ ?_)
      clear hK' K'
      (refine al_nil ?_; (simp only [go_sem, simprocAttr, hget, hnn, List.getElem?_map, Int.toNat_natCast, Option.map_some, Obj.row]); refine hK _ ?_; clear hK K)
      refine awp_if (p n) rfl (fun hc => ?_) (fun hc => ?_)
      · (refine awp_reg_seq [4] fun K hK => ?_; (repeat' ((refine al_r rfl fun K' hK' => ?_); (repeat (simp only [go_sem, simprocAttr, hget, hnn, List.getElem?_map, Int.toNat_natCast, Option.map_some, Obj.row])); ((refine hK' _ _ ?_) <;> clear hK' K'))); all_goals (refine al_nil ?_; (simp only [go_sem, simprocAttr, hget, hnn, List.getElem?_map, Int.toNat_natCast, Option.map_some, Obj.row]); refine hK _ ?_; clear hK K))
        refine awp_ret ?_; (refine hR _ _ (.inl rfl) rfl ?_ ?_)
        · simp only [go_sem, simprocAttr, hget, hnn, List.getElem?_map, Int.toNat_natCast, Option.map_some, Obj.row]
          rw [firstAt_at hbefore hget hc]
        · exact hob
      · have hpn := hc
        refine awp_skip ?_
        refine hK _ ?_; clear hK K
        (refine awp_reg_end [0, 1, 7, 8] fun K hK => ?_; (repeat' ((refine al_r rfl fun K' hK' => ?_); (repeat (simp only [go_sem, simprocAttr, hget, hnn, List.getElem?_map, Int.toNat_natCast, Option.map_some, Obj.row])); ((refine hK' _ _ ?_) <;> clear hK' K'))); all_goals (refine al_nil ?_; (simp only [go_sem, simprocAttr, hget, hnn, List.getElem?_map, Int.toNat_natCast, Option.map_some, Obj.row]); refine hK _ ?_; clear hK K))
        refine ⟨_, ?_, i + 1, hi2, rfl, ?_, ?_⟩
        · omega
        · intro j hj y hy
          by_cases e : j = i
          · subst e; rw [hget] at hy; cases hy; exact hpn
          · exact hbefore j (by omega) y hy
        · rw [wrap_next hi2 hlen]

  · refine awp_exit ?_
    clear hK
    refine hK _ ?_; clear hK K
    have hi2 : i = ls.length := by simp at hc; omega
    (refine awp_reg_seq [4] fun K hK => ?_; (repeat' ((refine al_r rfl fun K' hK' => ?_); (repeat (simp only [go_sem, simprocAttr, List.length_map])); ((refine hK' _ _ ?_) <;> clear hK' K'))); all_goals (refine al_nil ?_; (simp only [go_sem, simprocAttr, List.length_map]); refine hK _ ?_; clear hK K))
    refine awp_ret ?_; (refine hR _ _ (.inl rfl) rfl ?_ ?_)
    · simp only [go_sem, simprocAttr, List.length_map]
      rw [firstAt_none fun j y hy => hbefore j (by
        rcases Nat.lt_or_ge j ls.length with h' | h'
        · omega
        · simp [List.getElem?_eq_none h'] at hy) y hy]
    · exact hob





theorem begClo (o : Obj) (a : Int) : ACallP Try.prog 92 [objD o, .rd [.lit (.int .i64 a)] 0] (bD (o.at_ == a)) := by
  refine acallp_fn [3] Try.func92 rfl rfl Try.ntmps92 (by simp) fun R hR => ?_
  (refine awp_reg_seq [1, 2] fun K hK => ?_; (repeat' ((refine al_r rfl fun K' hK' => ?_); (repeat (simp only [go_sem, simprocAttr])); ((refine hK' _ _ ?_) <;> clear hK' K'))); all_goals (refine al_nil ?_; (simp only [go_sem, simprocAttr]); refine hK _ ?_; clear hK K))
  (refine awp_frz [1, 2] [] (by decide) (by (simp; done)) ?_; simp only [go_sem, simprocAttr])
  (refine awp_reg_seq [3] fun K hK => ?_; (repeat' ((refine al_r rfl fun K' hK' => ?_); (repeat (simp only [go_sem, simprocAttr])); ((refine hK' _ _ ?_) <;> clear hK' K'))); all_goals (refine al_nil ?_; (simp only [go_sem, simprocAttr]); refine hK _ ?_; clear hK K))
  all_goals (refine awp_ret ?_; (refine hR _ _ (.inl rfl) rfl ?_); (simp only [go_sem, simprocAttr, *, Bool.and_true, Bool.and_false, Bool.true_and, Bool.false_and, Bool.or_true, Bool.true_or, Bool.or_false, Bool.false_or, Bool.not_true, Bool.not_false, Bool.false_eq_true]; done))


theorem begAny (l : List Obj) (hlen : l.length ≤ maxLen) (a : Int) : ACallP Try.prog 91 [objs l, .fn 92 [.rd [.lit (.int .i64 a)] 0]] (bD (l.any fun o => o.at_ == a)) := by
  have hix := (indexO l hlen 92 [.rd [.lit (.int .i64 a)] 0] (fun o => o.at_ == a) [] [] (by simp) (by simp) (by simp) rfl rfl rfl (by simp) (by simp) Try.call92 fun o _ => (begClo o a).o).p
  have hn := firstAt_nonneg (p := fun o : Obj => o.at_ == a) (l := l)
  rw [← hn]
  refine acallp_fn [4] Try.func91 rfl rfl Try.ntmps91 (by simp) fun R hR => ?_
  (refine awp_reg_seq [0, 1] fun K hK => ?_; (repeat' ((refine al_r rfl fun K' hK' => ?_); (repeat (simp only [go_sem, simprocAttr])); ((refine hK' _ _ ?_) <;> clear hK' K'))); all_goals (refine al_nil ?_; (simp only [go_sem, simprocAttr]); refine hK _ ?_; clear hK K))
  (refine awp_reg_seq [4] fun K hK => ?_; (repeat' ((refine al_r rfl fun K' hK' => ?_); (repeat (simp only [go_sem, simprocAttr])); (first | ((refine hK' _ _ ?_) <;> clear hK' K') | ((show AC _ _ (D.fn 110 _) _ _); refine acall_p (f := 110) (e := rfl) (hr := rfl) (k := hK' _ _ ?_) (hc := Try.call110) (h := hix); clear hK' K')))); all_goals (refine al_nil ?_; (simp only [go_sem, simprocAttr]); refine hK _ ?_; clear hK K))
  all_goals (refine awp_ret ?_; (refine hR _ _ (.inl rfl) rfl ?_); (simp only [go_sem, simprocAttr, *, Bool.and_true, Bool.and_false, Bool.true_and, Bool.false_and, Bool.or_true, Bool.true_or, Bool.or_false, Bool.false_or, Bool.not_true, Bool.not_false, Bool.false_eq_true]; done))


theorem begins (h : List Int) (l : List Obj) (e a : Int) (hob : ACallP Try.prog 15 [words h] (.tup [objs l, iD e])) (hl : l.length ≤ maxLen) : ACallP Try.prog 67 [words h, iD a] (bD (l.any fun o => o.at_ == a)) := by
  have hba := begAny l hl a
  refine acallp_fn [4] Try.func67 rfl rfl Try.ntmps67 (by simp) fun R hR => ?_
  (refine awp_reg_seq [0, 3] fun K hK => ?_; (repeat' ((refine al_r rfl fun K' hK' => ?_); (repeat (simp only [go_sem, simprocAttr])); ((refine hK' _ _ ?_) <;> clear hK' K'))); all_goals (refine al_nil ?_; (simp only [go_sem, simprocAttr]); refine hK _ ?_; clear hK K))
  (refine awp_reg_seq [3, 5] fun K hK => ?_; (repeat' ((refine al_r rfl fun K' hK' => ?_); (repeat (simp only [go_sem, simprocAttr])); (first | ((refine hK' _ _ ?_) <;> clear hK' K') | ((show AC _ _ (D.fn 15 _) _ _); refine acall_p (f := 15) (e := rfl) (hr := rfl) (k := hK' _ _ ?_) (hc := Try.call15) (h := hob); clear hK' K')))); all_goals (refine al_nil ?_; (simp only [go_sem, simprocAttr]); refine hK _ ?_; clear hK K))
  (refine awp_frz [3, 5] [] (by decide) (by (simp; done)) ?_; simp only [go_sem, simprocAttr])
  (refine awp_reg_seq [4] fun K hK => ?_; (repeat' ((refine al_r rfl fun K' hK' => ?_); (repeat (simp only [go_sem, simprocAttr])); (first | ((refine hK' _ _ ?_) <;> clear hK' K') | ((show AC _ _ (D.fn 91 _) _ _); refine acall_p (f := 91) (e := rfl) (hr := rfl) (k := hK' _ _ ?_) (hc := Try.call91) (h := hba); clear hK' K')))); all_goals (refine al_nil ?_; (simp only [go_sem, simprocAttr]); refine hK _ ?_; clear hK K))
  all_goals (refine awp_ret ?_; (refine hR _ _ (.inl rfl) rfl ?_); (simp only [go_sem, simprocAttr, *, Bool.and_true, Bool.and_false, Bool.true_and, Bool.false_and, Bool.or_true, Bool.true_or, Bool.or_false, Bool.false_or, Bool.not_true, Bool.not_false, Bool.false_eq_true]; done))

/-- What named finds of one word. -/
def nameE (h : List Int) (l : List Obj) (w : Int) : Int :=
  if (placeS w).2.2 != 0 then (placeS w).2.2 else if ((placeS w).2.1 && (atS h (placeS w).1).2 != 0) || ((placeS w).2.1 && !(l.any fun o => o.at_ == (placeS w).1)) then 4 else 0


theorem namedBad (h : List Int) (old e : Int) (late ws : List Int) (he : (e != 0) = true) (hck : ACallP Try.prog 35 [agesD h old late] (iD e)) : ACallP Try.prog 66 [agesD h old late, words ws] (iD e) := by
  refine acallp_fn [4] Try.func66 rfl rfl Try.ntmps66 (by simp) fun R hR => ?_
  (refine awp_reg_seq [1, 2] fun K hK => ?_; (repeat' ((refine al_r rfl fun K' hK' => ?_); (repeat (simp only [go_sem, simprocAttr, he])); ((refine hK' _ _ ?_) <;> clear hK' K'))); all_goals (refine al_nil ?_; (simp only [go_sem, simprocAttr, he]); refine hK _ ?_; clear hK K))
  (refine awp_frz [1, 2] [] (by decide) (by (simp; done)) ?_; simp only [go_sem, simprocAttr, he])
  refine awp_seq_k fun K hK => ?_
  (refine awp_reg_seq [1, 2, 5] fun K hK => ?_; (repeat' ((refine al_r rfl fun K' hK' => ?_); (repeat (simp only [go_sem, simprocAttr, he])); (first | ((refine hK' _ _ ?_) <;> clear hK' K') | ((show AC _ _ (D.fn 35 _) _ _); refine acall_p (f := 35) (e := rfl) (hr := rfl) (k := hK' _ _ ?_) (hc := Try.call35) (h := hck); clear hK' K')))); all_goals (refine al_nil ?_; (simp only [go_sem, simprocAttr, he]); refine hK _ ?_; clear hK K))
  (refine awp_reg_seq [1, 2, 5, 16] fun K hK => ?_; (repeat' ((refine al_r rfl fun K' hK' => ?_); (repeat (simp only [go_sem, simprocAttr, he])); ((refine hK' _ _ ?_) <;> clear hK' K'))); all_goals (refine al_nil ?_; (simp only [go_sem, simprocAttr, he]); refine hK _ ?_; clear hK K))
  refine awp_if (_) rfl (fun hc => ?_) (fun hc => ?_)
  · (refine awp_reg_seq [4] fun K hK => ?_; (repeat' ((refine al_r rfl fun K' hK' => ?_); (repeat (simp only [go_sem, simprocAttr, he])); ((refine hK' _ _ ?_) <;> clear hK' K'))); all_goals (refine al_nil ?_; (simp only [go_sem, simprocAttr, he]); refine hK _ ?_; clear hK K))
    all_goals (refine awp_ret ?_; (refine hR _ _ (.inl rfl) rfl ?_); (simp only [go_sem, simprocAttr, he, *, Bool.and_true, Bool.and_false, Bool.true_and, Bool.false_and, Bool.or_true, Bool.true_or, Bool.or_false, Bool.false_or, Bool.not_true, Bool.not_false, Bool.false_eq_true]; done))
  · cases hc


theorem namedGood (h : List Int) (old e : Int) (late ws : List Int) (l : List Obj) (hck : ACallP Try.prog 35 [agesD h old late] (iD 0)) (hob : ACallP Try.prog 15 [words h] (.tup [objs l, iD e])) (hl : l.length ≤ maxLen)
    (hlen : h.length ≤ maxLen) (hok : ∀ w, w ∈ h → WordOk w) (hws : ws.length ≤ maxLen) : ACallP Try.prog 66 [agesD h old late, words ws] (iD (firstE (nameE h l) ws)) := by
  obtain ⟨V, hV⟩ : ∃ V, V = firstE (nameE h l) ws := ⟨_, rfl⟩
  rw [← hV]
  refine acallp_fn [4] Try.func66 rfl rfl Try.ntmps66 (by simp) fun R hR => ?_
  (refine awp_reg_seq [1, 2] fun K hK => ?_; (repeat' ((refine al_r rfl fun K' hK' => ?_); (repeat (simp only [go_sem, simprocAttr, List.length_map, bne_self_eq_false])); ((refine hK' _ _ ?_) <;> clear hK' K'))); all_goals (refine al_nil ?_; (simp only [go_sem, simprocAttr, List.length_map, bne_self_eq_false]); refine hK _ ?_; clear hK K))
  (refine awp_frz [1, 2] [] (by decide) (by (simp; done)) ?_; simp only [go_sem, simprocAttr, List.length_map, bne_self_eq_false])
  refine awp_seq_k fun K hK => ?_
  (refine awp_reg_seq [1, 2, 5] fun K hK => ?_; (repeat' ((refine al_r rfl fun K' hK' => ?_); (repeat (simp only [go_sem, simprocAttr, List.length_map, bne_self_eq_false])); (first | ((refine hK' _ _ ?_) <;> clear hK' K') | ((show AC _ _ (D.fn 35 _) _ _); refine acall_p (f := 35) (e := rfl) (hr := rfl) (k := hK' _ _ ?_) (hc := Try.call35) (h := hck); clear hK' K')))); all_goals (refine al_nil ?_; (simp only [go_sem, simprocAttr, List.length_map, bne_self_eq_false]); refine hK _ ?_; clear hK K))
  (refine awp_reg_seq [1, 2, 5, 16] fun K hK => ?_; (repeat' ((refine al_r rfl fun K' hK' => ?_); (repeat (simp only [go_sem, simprocAttr, List.length_map, bne_self_eq_false])); ((refine hK' _ _ ?_) <;> clear hK' K'))); all_goals (refine al_nil ?_; (simp only [go_sem, simprocAttr, List.length_map, bne_self_eq_false]); refine hK _ ?_; clear hK K))
  refine awp_if (_) rfl (fun hc => ?_) (fun hc => ?_)
  · cases hc
  · refine awp_skip ?_
    refine hK _ ?_; clear hK K
    refine awp_seq_k fun K hK => ?_
    (refine awp_reg_seq [2, 18, 19, 20] fun K hK => ?_; (repeat' ((refine al_r rfl fun K' hK' => ?_); (repeat (simp only [go_sem, simprocAttr, List.length_map, bne_self_eq_false])); ((first | refine hK' _ _ ?_ | refine ⟨?_, hK' _ _ ?_⟩) <;> clear hK' K' <;> (first | (show alist _ _ _ _ _ _; skip) | (intro s hs; cases hs; done))))); all_goals (refine al_nil ?_; (simp only [go_sem, simprocAttr, List.length_map, bne_self_eq_false]); refine hK _ ?_; clear hK K))
    refine awp_block ?_
    -- loop 0 head [2, 18, 19, 20]
    refine awp_loop_cut (fun m s => ∃ i : Nat, i ≤ ws.length ∧ m = ws.length - i ∧ V = firstE (nameE h l) (ws.drop i) ∧ s = ⟨ofL [(2, .rd [.sl (h.map wrow), .lit (.int .i64 old), .sl (late.map irow)] 0), (18, words ws), (19, iD ws.length), (20, iD i)], [], 0⟩) ⟨_, 0, Nat.zero_le _, rfl, hV, rfl⟩ ?_
    clear hV
    rintro m s ⟨i, hi, hm, hV, rfl⟩
    (refine awp_reg_seq [2, 18, 19, 20, 21] fun K hK => ?_; (repeat' ((refine al_r rfl fun K' hK' => ?_); (repeat (simp only [go_sem, simprocAttr, List.length_map, bne_self_eq_false])); ((refine hK' _ _ ?_) <;> clear hK' K'))); all_goals (refine al_nil ?_; (simp only [go_sem, simprocAttr, List.length_map, bne_self_eq_false]); refine hK _ ?_; clear hK K))
    refine awp_seq_k fun K hK => ?_
    refine awp_if (decide ((i : Int) < (ws.length : Int))) rfl (fun hc => ?_) (fun hc => ?_)
    · refine awp_skip ?_
      refine hK _ ?_; clear hK K
      refine awp_seq_k fun K hK => ?_
      refine awp_block ?_
      have hi2 : i < ws.length := by simpa using hc
      obtain ⟨w, hget⟩ := get_of_lt hi2
      have hnn : (0 : Int) ≤ (i : Int) := Int.natCast_nonneg i
      have hnx : IntKind.i64.wrap ((i : Int) + 1) = ((i + 1 : Nat) : Int) := wrap_next hi2 hws
      rw [drop_of hget] at hV
      obtain ⟨W, hW⟩ : ∃ W, W = nameE h l w := ⟨_, rfl⟩
      have hV2 : V = if W != 0 then W else firstE (nameE h l) (ws.drop (i + 1)) := by rw [hV, hW]; rfl
      clear hV
      unfold nameE at hW
      have hpl := placeW w
      generalize placeS w = P at hpl hW
      obtain ⟨at2, Is, pe⟩ := P
      simp only at hpl hW
      have hat := at_ h at2 hlen hok
      have hbe := begins h l e at2 hob hl
      generalize (l.any fun o => o.at_ == at2) = B at hbe hW
      generalize atS h at2 = Q at hat hW
      obtain ⟨o, ae⟩ := Q
      simp only at hat hW
      obtain ⟨E, hE⟩ : ∃ E, (ae != 0) = E := ⟨_, rfl⟩
      rw [hE] at hW

      (refine awp_reg_seq [2, 7, 18, 19, 20] fun K hK => ?_; (repeat' ((refine al_r rfl fun K' hK' => ?_); (repeat (simp only [go_sem, simprocAttr, hget, hnn, hi2, hnx, Int.toNat_natCast, List.getElem?_map, Option.map_some, List.length_map, hE])); ((refine hK' _ _ ?_) <;> clear hK' K'))); all_goals (refine al_nil ?_; (simp only [go_sem, simprocAttr, hget, hnn, hi2, hnx, Int.toNat_natCast, List.getElem?_map, Option.map_some, List.length_map, hE]); refine hK _ ?_; clear hK K))
      (refine awp_reg_seq [2, 8, 9, 10, 18, 19, 20] fun K hK => ?_; (repeat' ((refine al_r rfl fun K' hK' => ?_); (repeat (simp only [go_sem, simprocAttr, hget, hnn, hi2, hnx, Int.toNat_natCast, List.getElem?_map, Option.map_some, List.length_map, hE])); (first | ((refine hK' _ _ ?_) <;> clear hK' K') | ((show AC _ _ (D.fn 68 _) _ _); refine acall_p (f := 68) (e := rfl) (hr := rfl) (k := hK' _ _ ?_) (hc := Try.call68) (h := hpl); clear hK' K')))); all_goals (refine al_nil ?_; (simp only [go_sem, simprocAttr, hget, hnn, hi2, hnx, Int.toNat_natCast, List.getElem?_map, Option.map_some, List.length_map, hE]); refine hK _ ?_; clear hK K))
      refine awp_seq_k fun K hK => ?_
      (refine awp_reg_seq [2, 8, 9, 10, 18, 19, 20, 31] fun K hK => ?_; (repeat' ((refine al_r rfl fun K' hK' => ?_); (repeat (simp only [go_sem, simprocAttr, hget, hnn, hi2, hnx, Int.toNat_natCast, List.getElem?_map, Option.map_some, List.length_map, hE])); ((refine hK' _ _ ?_) <;> clear hK' K'))); all_goals (refine al_nil ?_; (simp only [go_sem, simprocAttr, hget, hnn, hi2, hnx, Int.toNat_natCast, List.getElem?_map, Option.map_some, List.length_map, hE]); refine hK _ ?_; clear hK K))
      refine awp_if (pe != 0) rfl (fun hc => ?_) (fun hc => ?_)
      · (refine awp_reg_seq [4] fun K hK => ?_; (repeat' ((refine al_r rfl fun K' hK' => ?_); (repeat (simp only [go_sem, simprocAttr, hget, hnn, hi2, hnx, Int.toNat_natCast, List.getElem?_map, Option.map_some, List.length_map, hE])); ((refine hK' _ _ ?_) <;> clear hK' K'))); all_goals (refine al_nil ?_; (simp only [go_sem, simprocAttr, hget, hnn, hi2, hnx, Int.toNat_natCast, List.getElem?_map, Option.map_some, List.length_map, hE]); refine hK _ ?_; clear hK K))
        refine awp_ret ?_; (refine hR _ _ (.inl rfl) rfl ?_)
        rw [if_pos hc] at hW
        rw [hW, if_pos hc] at hV2
        rw [hV2]
        simp only [go_sem, simprocAttr, hget, hnn, hi2, hnx, Int.toNat_natCast, List.getElem?_map, Option.map_some, List.length_map, hE]
      · rw [if_neg (by rw [hc]; simp)] at hW
        refine awp_skip ?_
        refine hK _ ?_; clear hK K
        (refine awp_reg_seq [2, 8, 9, 12, 18, 19, 20] fun K hK => ?_; (repeat' ((first | refine al_r rfl fun K' hK' => ?_ | refine al_d rfl fun K' hK' => ?_); (repeat (first | (simp only [go_sem, simprocAttr, hget, hnn, hi2, hnx, Int.toNat_natCast, List.getElem?_map, Option.map_some, List.length_map, hE]) | refine AS.mk ?_)); (first | ((first | refine hK' _ _ ?_ | refine ⟨?_, hK' _ _ ?_⟩) <;> clear hK' K' <;> (first | (show alist _ _ _ _ _ _; skip) | (simp; done))) | ((show AC _ _ (D.fn 19 _) _ _); refine acall_p (f := 19) (e := rfl) (hr := rfl) (k := hK' _ _ ?_) (hc := Try.call19) (h := hat); clear hK' K')))); all_goals (refine al_nil ?_; (simp only [go_sem, simprocAttr, hget, hnn, hi2, hnx, Int.toNat_natCast, List.getElem?_map, Option.map_some, List.length_map, hE]); refine hK _ ?_; clear hK K))
        (refine awp_frz [2, 8, 9, 12, 18, 19, 20] [] (by decide) (by (simp; done)) ?_; simp only [go_sem, simprocAttr, hget, hnn, hi2, hnx, Int.toNat_natCast, List.getElem?_map, Option.map_some, List.length_map, hE])
        refine awp_reg_tov [2, 18, 19, 20, 54] [(54, bD ((Is && E) || (Is && !B)))] (h := ?_) (k := ?_)
        · cases Is <;> cases E <;> cases B
          all_goals ((repeat' (first | ((first | refine al_r rfl fun K' hK' => ?_ | refine al_t rfl rfl fun K' hK' => ?_); (repeat (simp only [go_sem, simprocAttr, hget, hnn, hi2, hnx, Int.toNat_natCast, List.getElem?_map, Option.map_some, List.length_map, hE])); (first | ((refine hK' _ _ ?_) <;> clear hK' K') | ((show AC _ _ (D.fn 67 _) _ _); refine acall_p (f := 67) (e := rfl) (hr := rfl) (k := hK' _ _ ?_) (hc := Try.call67) (h := hbe); clear hK' K'))) | refine al_e rfl rfl ?_ | refine al_u rfl rfl ?_)); all_goals (refine al_nil ?_; (simp only [go_sem, simprocAttr, hget, hnn, hi2, hnx, Int.toNat_natCast, List.getElem?_map, Option.map_some, List.length_map, hE, *, Bool.and_true, Bool.and_false, Bool.true_and, Bool.false_and, Bool.or_true, Bool.true_or, Bool.or_false, Bool.false_or, Bool.not_true, Bool.not_false, Bool.false_eq_true]; done)))
        (intro K hK; (simp only [go_sem, simprocAttr, hget, hnn, hi2, hnx, Int.toNat_natCast, List.getElem?_map, Option.map_some, List.length_map, hE]); refine hK _ ?_; clear hK K)
        refine awp_if ((Is && E) || (Is && !B)) rfl (fun hc => ?_) (fun hc => ?_)
        · (refine awp_reg_seq [4] fun K hK => ?_; (repeat' ((refine al_r rfl fun K' hK' => ?_); (repeat (simp only [go_sem, simprocAttr, hget, hnn, hi2, hnx, Int.toNat_natCast, List.getElem?_map, Option.map_some, List.length_map, hE])); ((refine hK' _ _ ?_) <;> clear hK' K'))); all_goals (refine al_nil ?_; (simp only [go_sem, simprocAttr, hget, hnn, hi2, hnx, Int.toNat_natCast, List.getElem?_map, Option.map_some, List.length_map, hE]); refine hK _ ?_; clear hK K))
          refine awp_ret ?_; (refine hR _ _ (.inl rfl) rfl ?_)
          rw [if_pos hc] at hW
          rw [hW, if_pos (by decide)] at hV2
          rw [hV2]
          simp only [go_sem, simprocAttr, hget, hnn, hi2, hnx, Int.toNat_natCast, List.getElem?_map, Option.map_some, List.length_map, hE]
        · rw [if_neg (by rw [hc]; simp)] at hW
          rw [hW, if_neg (by decide)] at hV2
          refine awp_skip ?_
          refine hK _ ?_; clear hK K
          (refine awp_reg_end [2, 18, 19, 20] fun K hK => ?_; (repeat' ((refine al_r rfl fun K' hK' => ?_); (repeat (simp only [go_sem, simprocAttr, hget, hnn, hi2, hnx, Int.toNat_natCast, List.getElem?_map, Option.map_some, List.length_map, hE])); ((refine hK' _ _ ?_) <;> clear hK' K'))); all_goals (refine al_nil ?_; (simp only [go_sem, simprocAttr, hget, hnn, hi2, hnx, Int.toNat_natCast, List.getElem?_map, Option.map_some, List.length_map, hE]); refine hK _ ?_; clear hK K))
          exact ⟨ws.length - (i + 1), by omega, [2, 18, 19, 20], [], by decide, by intro q hq; exact absurd hq (Nat.not_lt_zero q), i + 1, hi2, rfl, hV2, rfl⟩

    · have hie : i = ws.length := by simp at hc; omega
      rw [hie, List.drop_length] at hV
      have hV0 : V = 0 := hV
      refine awp_exit ?_
      clear hK
      refine hK _ ?_; clear hK K
      (refine awp_reg_seq [4] fun K hK => ?_; (repeat' ((refine al_r rfl fun K' hK' => ?_); (repeat (simp only [go_sem, simprocAttr, List.length_map])); ((refine hK' _ _ ?_) <;> clear hK' K'))); all_goals (refine al_nil ?_; (simp only [go_sem, simprocAttr, List.length_map]); refine hK _ ?_; clear hK K))
      refine awp_ret ?_; (refine hR _ _ (.inl rfl) rfl ?_)
      rw [hV0]
      simp only [go_sem, simprocAttr, List.length_map]
end Go.Proofs.Ytagphggcdmjlpaa.P

/- Clone, BinarySearch and Insert at numbers; Clone at words: contracts. -/
namespace Go.Proofs.Ytagphggcdmjlpaa.P
open Go.Ab Go.Proofs.Ytagphggcdmjlpaa.T


theorem cloneI (xs : List (List PV)) (hx : ∀ x, x ∈ xs → x.length = 1) (hn : xs.length ≤ 1000000) :
    ACalls Try.prog 45 [.p (.sl xs)] [] (fun r obs => r = .ref 0 0 xs.length ∧ obs = [.row 1 xs]) := by
  refine acalln_fn [2] Try.func45 rfl rfl Try.ntmps45 (by simp) fun R hR => ?_
  (refine awp_reg_seq [0] fun K hK => ?_; (repeat' ((refine al_r rfl fun K' hK' => ?_); (repeat (simp only [go_sem, simprocAttr])); ((refine hK' _ _ ?_) <;> clear hK' K'))); all_goals (refine al_nil ?_; (simp only [go_sem, simprocAttr]); refine hK _ ?_; clear hK K))
  refine awp_seq_k fun K hK => ?_
  refine awp_reg_seq [0, 4] fun K hK => ?_
  repeat' ((refine al_r rfl fun K' hK' => ?_); (repeat (simp only [go_sem, simprocAttr])); ((refine hK' _ _ ?_) <;> clear hK' K'))
  refine al_run rfl rfl (by decide) fun K' hK' => ?_
  simp only [go_sem, simprocAttr]
  refine ⟨⟨_, rfl⟩, ?_⟩
  intro b hb
  refine hK' _ _ ?_
  clear hK' K'
  (refine al_nil ?_; (simp only [go_sem, simprocAttr]); refine hK _ ?_; clear hK K)
  refine awp_if (b) rfl (fun hc => ?_) (fun hc => ?_)
  · have hx0 : xs = [] := by
      cases xs with
      | nil => rfl
      | cons y l => have := hb (by simp); rw [this] at hc; cases hc
    subst hx0
    (refine awp_reg_seq [2] fun K hK => ?_; (repeat' ((refine al_r rfl fun K' hK' => ?_); (repeat (simp only [go_sem, simprocAttr])); ((refine hK' _ _ ?_) <;> clear hK' K'))); all_goals (refine al_nil ?_; (simp only [go_sem, simprocAttr]); refine hK _ ?_; clear hK K))
    refine awp_born 2 1 rfl ?_
    refine awp_ret (hR _ _ [0] (.inl rfl) rfl (by simp) ?_)
    refine ⟨?_, ?_⟩ <;> simp only [go_sem, simprocAttr]
  · refine awp_skip ?_
    refine hK _ ?_; clear hK K
    refine awp_reg_seq [2] fun K hK => ?_
    repeat' ((refine al_r rfl fun K' hK' => ?_); (repeat (first | (simp only [go_sem, simprocAttr]) | refine AAp.grow ?_)); ((first | refine hK' _ _ ?_ | refine ⟨?_, ?_, hK' _ _ ?_⟩) <;> clear hK' K' <;> (first | (show alist _ _ _ _ _ _; skip) | assumption | omega)))
    (refine al_nil ?_; (simp only [go_sem, simprocAttr]); refine hK _ ?_; clear hK K)
    refine awp_ret (hR _ _ [1] (.inl rfl) rfl (by simp) ?_)
    refine ⟨?_, ?_⟩ <;> simp only [go_sem, simprocAttr]



theorem nan94 (n : Int) : ACallP Try.prog 94 [iD n] (bD false) := by
  refine acallp_fn [2] Try.func94 rfl rfl Try.ntmps94 (by simp) fun R hR => ?_
  (refine awp_reg_seq [0] fun K hK => ?_; (repeat' ((refine al_r rfl fun K' hK' => ?_); (repeat (simp only [go_sem, simprocAttr, bne_self_eq_false])); ((refine hK' _ _ ?_) <;> clear hK' K'))); all_goals (refine al_nil ?_; (simp only [go_sem, simprocAttr, bne_self_eq_false]); refine hK _ ?_; clear hK K))
  (refine awp_reg_seq [2] fun K hK => ?_; (repeat' ((refine al_r rfl fun K' hK' => ?_); (repeat (simp only [go_sem, simprocAttr, bne_self_eq_false])); ((refine hK' _ _ ?_) <;> clear hK' K'))); all_goals (refine al_nil ?_; (simp only [go_sem, simprocAttr, bne_self_eq_false]); refine hK _ ?_; clear hK K))
  all_goals (refine awp_ret ?_; (refine hR _ _ (.inl rfl) rfl ?_); (simp only [go_sem, simprocAttr, bne_self_eq_false, *, Bool.and_true, Bool.and_false, Bool.true_and, Bool.false_and, Bool.or_true, Bool.true_or, Bool.or_false, Bool.false_or, Bool.not_true, Bool.not_false, Bool.false_eq_true]; done))
theorem nan111 (n : Int) : ACallP Try.prog 111 [iD n] (bD false) := by
  refine acallp_fn [2] Try.func111 rfl rfl Try.ntmps111 (by simp) fun R hR => ?_
  (refine awp_reg_seq [0] fun K hK => ?_; (repeat' ((refine al_r rfl fun K' hK' => ?_); (repeat (simp only [go_sem, simprocAttr, bne_self_eq_false])); ((refine hK' _ _ ?_) <;> clear hK' K'))); all_goals (refine al_nil ?_; (simp only [go_sem, simprocAttr, bne_self_eq_false]); refine hK _ ?_; clear hK K))
  (refine awp_reg_seq [2] fun K hK => ?_; (repeat' ((refine al_r rfl fun K' hK' => ?_); (repeat (simp only [go_sem, simprocAttr, bne_self_eq_false])); ((refine hK' _ _ ?_) <;> clear hK' K'))); all_goals (refine al_nil ?_; (simp only [go_sem, simprocAttr, bne_self_eq_false]); refine hK _ ?_; clear hK K))
  all_goals (refine awp_ret ?_; (refine hR _ _ (.inl rfl) rfl ?_); (simp only [go_sem, simprocAttr, bne_self_eq_false, *, Bool.and_true, Bool.and_false, Bool.true_and, Bool.false_and, Bool.or_true, Bool.true_or, Bool.or_false, Bool.false_or, Bool.not_true, Bool.not_false, Bool.false_eq_true]; done))


theorem less93 (a b : Int) : ACallP Try.prog 93 [iD a, iD b] (bD (decide (a < b))) := by
  refine acallp_fn [4] Try.func93 rfl rfl Try.ntmps93 (by simp) fun R hR => ?_
  (refine awp_reg_seq [0, 1] fun K hK => ?_; (repeat' ((refine al_r rfl fun K' hK' => ?_); (repeat (simp only [go_sem, simprocAttr])); ((refine hK' _ _ ?_) <;> clear hK' K'))); all_goals (refine al_nil ?_; (simp only [go_sem, simprocAttr]); refine hK _ ?_; clear hK K))
  (refine awp_reg_seq [4] fun K hK => ?_; (repeat' (first | ((first | refine al_r rfl fun K' hK' => ?_ | refine al_t rfl rfl fun K' hK' => ?_); (repeat (simp only [go_sem, simprocAttr])); (first | ((refine hK' _ _ ?_) <;> clear hK' K') | ((show AC _ _ (D.fn 111 _) _ _); refine acall_p (f := 111) (e := rfl) (hr := rfl) (k := hK' _ _ ?_) (hc := Try.call111) (h := (nan111 _)); clear hK' K'))) | refine al_e rfl rfl ?_)); all_goals (refine al_nil ?_; (simp only [go_sem, simprocAttr]); refine hK _ ?_; clear hK K))
  all_goals (refine awp_ret ?_; (refine hR _ _ (.inl rfl) rfl ?_); (simp only [go_sem, simprocAttr, *, Bool.and_true, Bool.and_false, Bool.true_and, Bool.false_and, Bool.or_true, Bool.true_or, Bool.or_false, Bool.false_or, Bool.not_true, Bool.not_false, Bool.false_eq_true]; done))


theorem searchI (ls : List Int) (hlen : ls.length ≤ maxLen) (tv : Int) (hr : Rising (fun x : Int => x - tv) ls) : ACallP Try.prog 69 [ints ls, iD tv] (.tup [iD (posOf (fun x : Int => x - tv) ls), bD (isAt (fun x : Int => x - tv) ls)]) := by
  refine acallp_fn [4, 5] Try.func69 rfl rfl Try.ntmps69 (by simp) fun R hR => ?_
  (refine awp_reg_seq [0, 1] fun K hK => ?_; (repeat' ((refine al_r rfl fun K' hK' => ?_); (repeat (simp only [go_sem, simprocAttr, List.length_map])); ((refine hK' _ _ ?_) <;> clear hK' K'))); all_goals (refine al_nil ?_; (simp only [go_sem, simprocAttr, List.length_map]); refine hK _ ?_; clear hK K))
  (refine awp_reg_seq [0, 1, 6] fun K hK => ?_; (repeat' ((refine al_r rfl fun K' hK' => ?_); (repeat (simp only [go_sem, simprocAttr, List.length_map])); ((first | refine hK' _ _ ?_ | refine ⟨?_, hK' _ _ ?_⟩) <;> clear hK' K' <;> (first | (show alist _ _ _ _ _ _; skip) | (intro s hs; cases hs; done))))); all_goals (refine al_nil ?_; (simp only [go_sem, simprocAttr, List.length_map]); refine hK _ ?_; clear hK K))
  (refine awp_reg_seq [0, 1, 6, 7, 8] fun K hK => ?_; (repeat' ((refine al_r rfl fun K' hK' => ?_); (repeat (simp only [go_sem, simprocAttr, List.length_map])); ((refine hK' _ _ ?_) <;> clear hK' K'))); all_goals (refine al_nil ?_; (simp only [go_sem, simprocAttr, List.length_map]); refine hK _ ?_; clear hK K))
  refine awp_seq_k fun K hK => ?_
  refine awp_block ?_
  -- loop 0 head [0, 1, 6, 7, 8]
  refine awp_loop (fun m s => ∃ i j : Nat, i ≤ j ∧ j ≤ ls.length ∧ m = j - i ∧ (∀ (k : Nat) x, k < i → ls[k]? = some x → x - tv < 0) ∧ (∀ (k : Nat) x, j ≤ k → ls[k]? = some x → 0 ≤ x - tv) ∧ s = ⟨ofL [(0, ints ls), (1, iD tv), (6, iD ls.length), (7, iD i), (8, iD j)], [], 0⟩) ⟨_, 0, ls.length, Nat.zero_le _, Nat.le_refl _, rfl, fun k x hk => absurd hk (by omega), fun k x hk hx => absurd (lt_of_get hx) (by omega), rfl⟩ ?_
  rintro m s ⟨i, j, hij, hj, rfl, hlo, hhi, rfl⟩
  refine awp_seq_k fun K hK => ?_
  (refine awp_reg_seq [0, 1, 6, 7, 8, 15] fun K hK => ?_; (repeat' ((refine al_r rfl fun K' hK' => ?_); (repeat (simp only [go_sem, simprocAttr, List.length_map])); ((refine hK' _ _ ?_) <;> clear hK' K'))); all_goals (refine al_nil ?_; (simp only [go_sem, simprocAttr, List.length_map]); refine hK _ ?_; clear hK K))
  refine awp_if (_) rfl (fun hc => ?_) (fun hc => ?_)
  · refine awp_skip ?_
    refine hK _ ?_; clear hK K
    refine awp_block ?_
    have hij2 : i < j := by simpa using hc
    have hmid := mid_eq (i := i) (j := j) (by simp [maxLen] at hlen; omega)
    (refine awp_reg_seq [0, 1, 6, 7, 8, 9] fun K hK => ?_; (repeat' ((refine al_r rfl fun K' hK' => ?_); (repeat (simp only [go_sem, simprocAttr, List.length_map])); ((refine hK' _ _ ?_) <;> clear hK' K'))); all_goals (refine al_nil ?_; (simp only [go_sem, simprocAttr, List.length_map]); refine hK _ ?_; clear hK K))
    rw [hmid]
    obtain ⟨k, hk⟩ : ∃ k, k = (i + j) / 2 := ⟨_, rfl⟩
    rw [← hk]
    have hkl : k < ls.length := by omega
    obtain ⟨x, hx⟩ := get_of_lt hkl
    have hkn : (0 : Int) ≤ (k : Int) := Int.natCast_nonneg k
    have hkl2 : (k : Int) < (ls.length : Int) := by omega

    (refine awp_reg_seq [0, 1, 6, 7, 8, 9, 27] fun K hK => ?_; (repeat' ((refine al_r rfl fun K' hK' => ?_); (repeat (simp only [go_sem, simprocAttr, hx, hkn, hkl2, Int.toNat_natCast, List.getElem?_map, Option.map_some, List.length_map])); (first | ((refine hK' _ _ ?_) <;> clear hK' K') | ((show AC _ _ (D.fn 93 _) _ _); refine acall_p (f := 93) (e := rfl) (hr := rfl) (k := hK' _ _ ?_) (hc := Try.call93) (h := (less93 _ _)); clear hK' K')))); all_goals (refine al_nil ?_; (simp only [go_sem, simprocAttr, hx, hkn, hkl2, Int.toNat_natCast, List.getElem?_map, Option.map_some, List.length_map]); refine hK _ ?_; clear hK K))
    refine awp_if (_) rfl (fun hc => ?_) (fun hc => ?_)
    · (refine awp_reg_end [0, 1, 6, 7, 8] fun K hK => ?_; (repeat' ((refine al_r rfl fun K' hK' => ?_); (repeat (simp only [go_sem, simprocAttr, hx, hkn, hkl2, Int.toNat_natCast, List.getElem?_map, Option.map_some, List.length_map])); ((refine hK' _ _ ?_) <;> clear hK' K'))); all_goals (refine al_nil ?_; (simp only [go_sem, simprocAttr, hx, hkn, hkl2, Int.toNat_natCast, List.getElem?_map, Option.map_some, List.length_map]); refine hK _ ?_; clear hK K))
      refine ⟨_, ?_, k + 1, j, by omega, hj, rfl, ?_, hhi, ?_⟩
      · omega
      · intro a y ha hy
        have hneg : x - tv < 0 := by simp at hc; omega
        by_cases e : a = k
        · subst e; rw [hx] at hy; cases hy; exact hneg
        · exact hr a k y x (by omega) hy hx hneg
      · rw [wrap_next hkl hlen]
    · (refine awp_reg_end [0, 1, 6, 7, 8] fun K hK => ?_; (repeat' ((refine al_r rfl fun K' hK' => ?_); (repeat (simp only [go_sem, simprocAttr, hx, hkn, hkl2, Int.toNat_natCast, List.getElem?_map, Option.map_some, List.length_map])); ((refine hK' _ _ ?_) <;> clear hK' K'))); all_goals (refine al_nil ?_; (simp only [go_sem, simprocAttr, hx, hkn, hkl2, Int.toNat_natCast, List.getElem?_map, Option.map_some, List.length_map]); refine hK _ ?_; clear hK K))
      refine ⟨_, ?_, i, k, by omega, by omega, rfl, hlo, ?_, rfl⟩
      · omega
      · intro a y ha hy
        have hneg : ¬ x - tv < 0 := by simp at hc; omega
        by_cases e : a = k
        · subst e; rw [hx] at hy; cases hy; omega
        · rcases Int.lt_or_le (y - tv) 0 with h' | h'
          · exact absurd (hr k a x y (by omega) hx hy h') hneg
          · exact h'
  · refine awp_exit ?_
    have hij2 : i = j := by simp at hc; omega
    subst hij2
    have hpos : posOf (fun x : Int => x - tv) ls = i := posOf_eq hj hlo hhi
    rw [hpos] at hR

    clear hK
    refine hK _ ?_; clear hK K
    refine awp_reg_tov [4, 5] [(4, iD i), (5, bD (isAt (fun x : Int => x - tv) ls))] (h := ?_) (k := ?_)
    · rcases Nat.lt_or_ge i ls.length with hil | hil
      · obtain ⟨x, hx⟩ := get_of_lt hil
        have hat : isAt (fun x : Int => x - tv) ls = (x == tv) := by
          unfold isAt
          rw [hpos, hx]
          show (x - tv == 0) = (x == tv)
          by_cases e : x = tv
          · subst e; simp
          · rw [beq_eq_false_iff_ne.2 e, beq_eq_false_iff_ne]; omega
        have hkn : (0 : Int) ≤ (i : Int) := Int.natCast_nonneg i
        have hkl2 : (i : Int) < (ls.length : Int) := by omega

        ((repeat' (first | ((first | refine al_r rfl fun K' hK' => ?_ | refine al_t rfl rfl fun K' hK' => ?_); (repeat (simp only [go_sem, simprocAttr, hx, hkn, hkl2, Int.toNat_natCast, List.getElem?_map, Option.map_some, List.length_map, hat, decide_true])); (first | ((refine hK' _ _ ?_) <;> clear hK' K') | ((show AC _ _ (D.fn 94 _) _ _); refine acall_p (f := 94) (e := rfl) (hr := rfl) (k := hK' _ _ ?_) (hc := Try.call94) (h := (nan94 _)); clear hK' K'))) | refine al_e rfl rfl ?_ | refine al_u rfl rfl ?_ | ((fail_if_success (refine al_t rfl rfl fun K' hK' => ?_)); refine al_s _ rfl rfl rfl (fun hb => ?_) (fun hb => ?_)))); all_goals (refine al_nil ?_; (simp only [go_sem, simprocAttr, hx, hkn, hkl2, Int.toNat_natCast, List.getElem?_map, Option.map_some, List.length_map, hat, decide_true, *, Bool.and_true, Bool.and_false, Bool.true_and, Bool.false_and, Bool.or_true, Bool.true_or, Bool.or_false, Bool.false_or, Bool.not_true, Bool.not_false, Bool.false_eq_true]; done)))
      · have hat : isAt (fun x : Int => x - tv) ls = false := by unfold isAt; rw [hpos, List.getElem?_eq_none hil]
        have hkl3 : decide ((i : Int) < (ls.length : Int)) = false := by simp; omega

        ((repeat' (first | ((refine al_r rfl fun K' hK' => ?_); (repeat (simp only [go_sem, simprocAttr, List.length_map, hat, hkl3])); ((refine hK' _ _ ?_) <;> clear hK' K')) | refine al_e rfl rfl ?_ | refine al_u rfl rfl ?_)); all_goals (refine al_nil ?_; (simp only [go_sem, simprocAttr, List.length_map, hat, hkl3, *, Bool.and_true, Bool.and_false, Bool.true_and, Bool.false_and, Bool.or_true, Bool.true_or, Bool.or_false, Bool.false_or, Bool.not_true, Bool.not_false, Bool.false_eq_true]; done)))

    (intro K hK; (simp only [go_sem, simprocAttr, List.length_map]); refine hK _ ?_; clear hK K)
    all_goals (refine awp_ret ?_; (refine hR _ _ (.inl rfl) rfl ?_); (simp only [go_sem, simprocAttr, List.length_map, *, Bool.and_true, Bool.and_false, Bool.true_and, Bool.false_and, Bool.or_true, Bool.true_or, Bool.or_false, Bool.false_or, Bool.not_true, Bool.not_false, Bool.false_eq_true]; done))




theorem insEnd (xs : List (List PV)) (hx : ∀ x, x ∈ xs → x.length = 1) (hlen : xs.length ≤ 1000000) (a : Int) : ACalls Try.prog 70 [.ref 0 0 xs.length, iD xs.length, .ref 1 0 1] [.row 1 xs, .row 1 [[.lit (.int .i64 a)]]] (fun r obs' => r = .ref 2 0 (xs.length + 1) ∧ obs' = [.dead, .row 1 [[.lit (.int .i64 a)]], .row 1 (xs ++ [[.lit (.int .i64 a)]])]) := by
  refine acallm_fn [6] Try.func70 rfl rfl Try.ntmps70 (by simp) (by simp) fun R hR => ?_
  have hn0 : (0 : Int) ≤ (xs.length : Int) := Int.natCast_nonneg _
  have hn1 : (xs.length : Int) ≤ (xs.length : Int) := Int.le_refl _

  (refine awp_reg_seq [0, 1, 2] fun K hK => ?_; (repeat' ((refine al_r rfl fun K' hK' => ?_); (repeat (simp only [go_sem, simprocAttr, beq_self_eq_true, hn0, hn1, Int.toNat_natCast, List.take_length])); ((refine hK' _ _ ?_) <;> clear hK' K'))); all_goals (refine al_nil ?_; (simp only [go_sem, simprocAttr, beq_self_eq_true, hn0, hn1, Int.toNat_natCast, List.take_length]); refine hK _ ?_; clear hK K))
  refine awp_reg_seq [0, 1, 2] fun K hK => ?_
  iterate 3 ((refine al_r rfl fun K' hK' => ?_); (repeat (simp only [go_sem, simprocAttr, beq_self_eq_true, hn0, hn1, Int.toNat_natCast, List.take_length])); ((first | refine hK' _ _ ?_ | refine ⟨?_, ?_, hK' _ _ ?_⟩) <;> clear hK' K' <;> (first | (show alist _ _ _ _ _ _; skip) | (simp; done))))
  (refine al_nil ?_; (simp only [go_sem, simprocAttr, beq_self_eq_true, hn0, hn1, Int.toNat_natCast, List.take_length]); refine hK _ ?_; clear hK K)
  (refine awp_reg_seq [0, 1, 2, 7] fun K hK => ?_; (repeat' ((refine al_r rfl fun K' hK' => ?_); (repeat (simp only [go_sem, simprocAttr, beq_self_eq_true, hn0, hn1, Int.toNat_natCast, List.take_length])); ((first | refine hK' _ _ ?_ | refine ⟨?_, hK' _ _ ?_⟩) <;> clear hK' K' <;> (first | (show alist _ _ _ _ _ _; skip) | (intro s hs; cases hs; done))))); all_goals (refine al_nil ?_; (simp only [go_sem, simprocAttr, beq_self_eq_true, hn0, hn1, Int.toNat_natCast, List.take_length]); refine hK _ ?_; clear hK K))
  refine awp_seq_k fun K hK => ?_
  (refine awp_reg_seq [0, 1, 2, 7, 16] fun K hK => ?_; (repeat' ((refine al_r rfl fun K' hK' => ?_); (repeat (simp only [go_sem, simprocAttr, beq_self_eq_true, hn0, hn1, Int.toNat_natCast, List.take_length])); ((refine hK' _ _ ?_) <;> clear hK' K'))); all_goals (refine al_nil ?_; (simp only [go_sem, simprocAttr, beq_self_eq_true, hn0, hn1, Int.toNat_natCast, List.take_length]); refine hK _ ?_; clear hK K))
  refine awp_if (_) rfl (fun hc => ?_) (fun hc => ?_)
  · cases hc
  · refine awp_skip ?_
    refine hK _ ?_; clear hK K
    (refine awp_reg_seq [0, 1, 2, 7, 8] fun K hK => ?_; (repeat' ((refine al_r rfl fun K' hK' => ?_); (repeat (simp only [go_sem, simprocAttr, beq_self_eq_true, hn0, hn1, Int.toNat_natCast, List.take_length])); ((first | refine hK' _ _ ?_ | refine ⟨?_, hK' _ _ ?_⟩) <;> clear hK' K' <;> (first | (show alist _ _ _ _ _ _; skip) | (intro s hs; cases hs; done))))); all_goals (refine al_nil ?_; (simp only [go_sem, simprocAttr, beq_self_eq_true, hn0, hn1, Int.toNat_natCast, List.take_length]); refine hK _ ?_; clear hK K))
    refine awp_seq_k fun K hK => ?_
    (refine awp_reg_seq [0, 1, 2, 7, 8, 22] fun K hK => ?_; (repeat' ((refine al_r rfl fun K' hK' => ?_); (repeat (simp only [go_sem, simprocAttr, beq_self_eq_true, hn0, hn1, Int.toNat_natCast, List.take_length])); ((refine hK' _ _ ?_) <;> clear hK' K'))); all_goals (refine al_nil ?_; (simp only [go_sem, simprocAttr, beq_self_eq_true, hn0, hn1, Int.toNat_natCast, List.take_length]); refine hK _ ?_; clear hK K))
    refine awp_if (_) rfl (fun hc => ?_) (fun hc => ?_)
    · (refine awp_reg_seq [6] fun K hK => ?_; (repeat' ((refine al_r rfl fun K' hK' => ?_); (repeat (first | (simp only [go_sem, simprocAttr, beq_self_eq_true, hn0, hn1, Int.toNat_natCast, List.take_length]) | refine AAp.grow ?_)); ((first | refine hK' _ _ ?_ | refine ⟨?_, ?_, ?_, hK' _ _ ?_⟩) <;> clear hK' K' <;> (first | (show alist _ _ _ _ _ _; skip) | (simp; done) | omega)))); all_goals (refine al_nil ?_; (simp only [go_sem, simprocAttr, beq_self_eq_true, hn0, hn1, Int.toNat_natCast, List.take_length]); refine hK _ ?_; clear hK K))
      refine awp_ret (hR _ _ [0, 1, 2] (.inl rfl) rfl (by decide) (by simp only [List.length_cons, List.length_nil]; decide) ?_)
      all_goals (refine ⟨?_, ?_⟩ <;> simp only [go_sem, simprocAttr, beq_self_eq_true, hn0, hn1, Int.toNat_natCast, List.take_length])
    · cases hc

def insL (ls : List Int) (i : Nat) (d : Int) : List Int := ls.take i ++ d :: ls.drop i

theorem irow1 (ls : List Int) : ∀ x, x ∈ ls.map irow → x.length = 1 := fun x hx => by
  obtain ⟨y, _, rfl⟩ := List.mem_map.1 hx
  rfl

theorem insAny (ls : List Int) (i : Nat) (hi : i ≤ ls.length) (hlen : ls.length ≤ 1000000) (a : Int) :
    ACalls Try.prog 70 [.ref 0 0 ls.length, iD i, .ref 1 0 1] [.row 1 (ls.map irow), .row 1 [[.lit (.int .i64 a)]]] (fun r obs' => r = .ref 2 0 (ls.length + 1) ∧ obs' = [.dead, .row 1 [[.lit (.int .i64 a)]], .row 1 ((insL ls i a).map irow)]) := by
  have hm : (insL ls i a).map irow = insR (ls.map irow) i [.lit (.int .i64 a)] := by
    simp [insL, insR, List.map_take, List.map_drop]
  rw [hm]
  by_cases h : i < ls.length
  · have := insertI (ls.map irow) [.lit (.int .i64 a)] rfl i (by simpa using h) (by simpa using hlen)
    rwa [List.length_map] at this
  · have e : i = (ls.map irow).length := by simp; omega
    have := insEnd (ls.map irow) (irow1 ls) (by simpa using hlen) a
    rw [show insR (ls.map irow) i [.lit (.int .i64 a)] = ls.map irow ++ [[.lit (.int .i64 a)]] by rw [e]; unfold insR; rw [List.take_length, List.drop_length]]
    rw [List.length_map] at this e
    rw [e]
    exact this
end Go.Proofs.Ytagphggcdmjlpaa.P

/- A cell is set: a contract. -/
namespace Go.Proofs.Ytagphggcdmjlpaa.P
open Go.Ab Go.Proofs.Ytagphggcdmjlpaa.T

theorem awp_suff {P : Program} {nt : Nat} {x y : Code} {Q : Exit → St → Prop} {st : St} (s1 : St) (h1 : AWp P nt y Q s1) (h2 : AWp P nt y Q s1 → AWp P nt (.seq x y) Q st) : AWp P nt (.seq x y) Q st := h2 h1

/-- The late places behind Set. -/
def setL (old : Int) (late : List Int) (a : Int) (P : Int × Bool × Int) : List Int :=
  if P.2.1 && decide (a < old) && decide (P.1 ≥ old) then (if isAt (fun x : Int => x - a) late then late else insL late (posOf (fun x : Int => x - a) late) a) else late


end Go.Proofs.Ytagphggcdmjlpaa.P

/- Put, its answer an own row: a contract. -/
namespace Go.Proofs.Ytagphggcdmjlpaa.P
open Go.Ab Go.Proofs.Ytagphggcdmjlpaa.T


theorem putO (h : List Int) (o : Obj) (hlen : h.length ≤ maxLen) (hg : (putS h o).2.2 = 0) : ACalls Try.prog 17 [words h, objD o] [] (fun r obs' => r = .tup [.ref 0 0 (putS h o).1.length, iD h.length, iD 0] ∧ obs' = [.row 1 ((putS h o).1.map wrow)]) := by
  have hri := right o
  have hhe := head o
  have hsm := right_small (o := o)
  obtain ⟨R0, hR0⟩ : ∃ R0, R0 = putS h o := ⟨_, rfl⟩
  have hv : R0 = if !rightS o then ([], 0, 1) else if decide ((h.length : Int) > 4000 - (roomN o.kind o.text.size o.parts.length : Int)) then ([], 0, 6) else (h ++ encW o, (h.length : Int), 0) := hR0
  rw [← hR0] at hg ⊢
  clear hR0
  have hel := enc_len o
  generalize rightS o = r at hri hsm hv
  refine acallm_fn [4, 5, 6] Try.func17 rfl rfl Try.ntmps17 (by simp) (by simp) fun R hR => ?_
  (refine awp_reg_seq [0, 3] fun K hK => ?_; (repeat' ((refine al_r rfl fun K' hK' => ?_); (repeat (simp only [go_sem, simprocAttr, List.length_map])); ((refine hK' _ _ ?_) <;> clear hK' K'))); all_goals (refine al_nil ?_; (simp only [go_sem, simprocAttr, List.length_map]); refine hK _ ?_; clear hK K))
  (refine awp_frz [0, 3] [] (by decide) (by (simp; done)) ?_; simp only [go_sem, simprocAttr, List.length_map])
  refine awp_seq_k fun K hK => ?_
  refine awp_block ?_
  (refine awp_reg_seq [0, 3, 11] fun K hK => ?_; (repeat' ((refine al_r rfl fun K' hK' => ?_); (repeat (simp only [go_sem, simprocAttr, List.length_map])); (first | ((refine hK' _ _ ?_) <;> clear hK' K') | ((show AC _ _ (D.fn 52 _) _ _); refine acall_p (f := 52) (e := rfl) (hr := rfl) (k := hK' _ _ ?_) (hc := Try.call52) (h := hri); clear hK' K')))); all_goals (refine al_nil ?_; (simp only [go_sem, simprocAttr, List.length_map]); refine hK _ ?_; clear hK K))
  refine awp_if (_) rfl (fun hc => ?_) (fun hc => ?_)
  · (refine awp_reg_seq [4, 5, 6] fun K hK => ?_; (repeat' ((refine al_r rfl fun K' hK' => ?_); (repeat (simp only [go_sem, simprocAttr, List.length_map])); ((refine hK' _ _ ?_) <;> clear hK' K'))); all_goals (refine al_nil ?_; (simp only [go_sem, simprocAttr, List.length_map]); refine hK _ ?_; clear hK K))
    exfalso
    rw [if_pos hc] at hv
    rw [hv] at hg
    cases hg
  · rw [if_neg (by rw [hc]; simp)] at hv
    obtain ⟨hs64, hp400⟩ := hsm (by simpa using hc)
    have hro := room o.kind o.text.size o.parts.length (by omega) (by omega)
    have hr1 : roomN o.kind o.text.size o.parts.length ≤ 500 := by
      unfold roomN
      split <;> omega
    have hw4 : IntKind.i64.wrap (4000 - (roomN o.kind o.text.size o.parts.length : Int)) = 4000 - (roomN o.kind o.text.size o.parts.length : Int) := by rw [Go.Ab.wrap_small (by omega) (by omega)]
    generalize roomN o.kind o.text.size o.parts.length = rm at *

    (refine awp_reg_seq [0, 3, 15] fun K hK => ?_; (repeat' ((refine al_r rfl fun K' hK' => ?_); (repeat (simp only [go_sem, simprocAttr, List.length_map, hw4])); (first | ((first | refine hK' _ _ ?_ | refine ⟨?_, hK' _ _ ?_⟩) <;> clear hK' K' <;> (first | (show alist _ _ _ _ _ _; skip) | (intro s hs; cases hs; done) | (simp; done))) | ((show AC _ _ (D.fn 51 _) _ _); refine acall_p (f := 51) (e := rfl) (hr := rfl) (k := hK' _ _ ?_) (hc := Try.call51) (h := hro); clear hK' K')))); all_goals (refine al_nil ?_; (simp only [go_sem, simprocAttr, List.length_map, hw4]); refine hK _ ?_; clear hK K))
    refine awp_if (decide ((h.length : Int) > 4000 - (rm : Int))) rfl (fun hc => ?_) (fun hc => ?_)
    · (refine awp_reg_seq [4, 5, 6] fun K hK => ?_; (repeat' ((refine al_r rfl fun K' hK' => ?_); (repeat (simp only [go_sem, simprocAttr, List.length_map, hw4])); ((refine hK' _ _ ?_) <;> clear hK' K'))); all_goals (refine al_nil ?_; (simp only [go_sem, simprocAttr, List.length_map, hw4]); refine hK _ ?_; clear hK K))
      exfalso
      rw [if_pos hc] at hv
      rw [hv] at hg
      cases hg
    · rw [if_neg (by rw [hc]; simp)] at hv
      have hh4 : h.length ≤ 4000 := by simp at hc; omega
      have hcl := cloneH (h.map wrow) (wrow1 h) (by simp; omega)
      rw [List.length_map] at hcl
      have hth : List.take h.length (h.map wrow) = h.map wrow := List.take_of_length_le (by simp)
      have hfit : (h.length + 1) * 8 ≤ 140737488355328 := by omega

      refine awp_skip ?_
      refine hK _ ?_; clear hK K
      refine awp_draw_seq (by kernel_rfl) [0, 3, 7] fun K hK => ?_
      ((refine ah_r 0 rfl (by kernel_rfl) rfl fun K' hK' => ?_); (simp only [go_sem, simprocAttr, List.length_map, hth, hfit, List.drop_zero]); ((refine hK' _ ?_); clear hK' K'))
      ((refine ah_r 2 rfl (by kernel_rfl) rfl fun K' hK' => ?_); (simp only [go_sem, simprocAttr, List.length_map, hth, hfit, List.drop_zero]); ((refine hK' _ ?_); clear hK' K'))
      (refine ah_one 1 rfl (by kernel_rfl) ?_; (repeat' ((refine al_r rfl fun K' hK' => ?_); (repeat (simp only [go_sem, simprocAttr, List.length_map, hth, hfit, List.drop_zero])); ((show AC _ _ (D.fn 43 _) _ _); refine acall_new (f := 43) Try.call43 hcl rfl ?_; rintro r obs' ⟨rfl, rfl⟩; (simp only [go_sem, simprocAttr, List.length_map, hth, hfit, List.drop_zero]); refine hK' _ _ ?_; clear hK' K'))); all_goals refine al_nil ?_)
      (refine ah_one 3 rfl (by kernel_rfl) ?_; (repeat' ((refine al_r rfl fun K' hK' => ?_); (repeat (simp only [go_sem, simprocAttr, List.length_map, hth, hfit, List.drop_zero])); ((show AC _ _ (D.fn 53 _) _ _); refine acall_p (f := 53) (e := rfl) (hr := rfl) (k := hK' _ _ ?_) (hc := Try.call53) (h := hhe); clear hK' K'))); all_goals refine al_nil ?_)
      (refine ah_one 4 rfl (by kernel_rfl) ?_; (repeat' ((refine al_r rfl fun K' hK' => ?_); (repeat (simp only [go_sem, simprocAttr, List.length_map, hth, hfit, List.drop_zero])); ((refine hK' _ _ ?_) <;> clear hK' K'))); all_goals refine al_nil ?_)
      (refine ah_one 5 rfl (by kernel_rfl) ?_; (repeat' ((refine al_r rfl fun K' hK' => ?_); (repeat (first | (simp only [go_sem, simprocAttr, List.length_map, hth, hfit, List.drop_zero]) | refine AAp.grow ?_)); ((refine ⟨?_, ?_, hK' _ _ ?_⟩) <;> clear hK' K' <;> (first | (show alist _ _ _ _ _ _; skip) | (simp; done))))); all_goals refine al_nil ?_)
      ((refine ah_r 6 rfl (by kernel_rfl) rfl fun K' hK' => ?_); (simp only [go_sem, simprocAttr, List.length_map, hth, hfit, List.drop_zero]); ((refine hK' _ ?_); clear hK' K'))
      (refine ah_done (by kernel_rfl) ?_; (simp only [go_sem, simprocAttr, List.length_map, hth, hfit, List.drop_zero]); refine hK _ ?_; clear hK K)
      refine awp_seq_kc fun K hK hcut => ?_
      have key : ∀ W : List Int, W.length ≤ 4010 → R0 = (W ++ (textW o.text ++ o.parts), (h.length : Int), 0) → K ⟨ofL [(0, words h), (3, .rd [.lit (.int .i64 o.at_), .lit (.int .i64 o.kind), .lit (.int .i64 o.num), .lit (.string o.text), .sl (o.parts.map wrow)] 0), (7, .ref 0 0 W.length)], [.row 1 (W.map wrow)], 0⟩ := by
        clear hcut
        intro W hWl hRW
        clear hv hcl hel
        obtain ⟨M, hM⟩ : ∃ M, M = (o.text.size + 7) / 8 := ⟨_, rfl⟩
        have hM9 : M ≤ 8 := by omega
        refine hK _ ?_; clear hK K
        refine awp_seq_k fun K hK => ?_
        (refine awp_reg_seq [0, 3, 7, 8] fun K hK => ?_; (repeat' ((refine al_r rfl fun K' hK' => ?_); (repeat (simp only [go_sem, simprocAttr, List.length_map, hth, hfit, List.drop_zero])); ((refine hK' _ _ ?_) <;> clear hK' K'))); all_goals (refine al_nil ?_; (simp only [go_sem, simprocAttr, List.length_map, hth, hfit, List.drop_zero]); refine hK _ ?_; clear hK K))
        refine awp_block ?_
        -- loop 0 head [0, 3, 7, 8]
        refine awp_loop_cut (fun m s => ∃ (j : Nat) (V : List Int), j ≤ M ∧ m = M - j ∧ V.length = W.length + j ∧ V ++ textF o.text (M - j) (8 * j) = W ++ textW o.text ∧ s = ⟨ofL [(0, words h), (3, .rd [.lit (.int .i64 o.at_), .lit (.int .i64 o.kind), .lit (.int .i64 o.num), .lit (.string o.text), .sl (o.parts.map wrow)] 0), (7, .ref 0 0 V.length), (8, iD ((8 * j : Nat) : Int))], [.row 1 (V.map wrow)], 0⟩) ⟨_, 0, W, Nat.zero_le _, rfl, rfl, by rw [hM]; rfl, rfl⟩ ?_
        rintro m s ⟨j, V, hj, hmj, hVl, hVt, rfl⟩
        refine awp_seq_k fun K hK => ?_
        (refine awp_reg_seq [0, 3, 7, 8, 53] fun K hK => ?_; (repeat' ((refine al_r rfl fun K' hK' => ?_); (repeat (simp only [go_sem, simprocAttr, List.length_map, hth, hfit, List.drop_zero])); ((first | refine hK' _ _ ?_ | refine ⟨?_, hK' _ _ ?_⟩) <;> clear hK' K' <;> (first | (show alist _ _ _ _ _ _; skip) | (simp; done))))); all_goals (refine al_nil ?_; (simp only [go_sem, simprocAttr, List.length_map, hth, hfit, List.drop_zero]); refine hK _ ?_; clear hK K))
        refine awp_if (decide (((8 * j : Nat) : Int) < (o.text.size : Int))) rfl (fun hc => ?_) (fun hc => ?_)
        · refine awp_skip ?_
          refine hK _ ?_; clear hK K
          refine awp_seq_k fun K hK => ?_
          refine awp_block ?_
          have hj2 : j < M := by simp at hc; omega
          have htf : textF o.text (M - j) (8 * j) = wordAt o.text (8 * j) :: textF o.text (M - (j + 1)) (8 * (j + 1)) := by
            rw [show M - j = (M - (j + 1)) + 1 by omega]; rfl
          (refine awp_reg_seq [0, 3, 7, 8, 9] fun K hK => ?_; (repeat' ((refine al_r rfl fun K' hK' => ?_); (repeat (simp only [go_sem, simprocAttr, List.length_map, hth, hfit, List.drop_zero])); ((refine hK' _ _ ?_) <;> clear hK' K'))); all_goals (refine al_nil ?_; (simp only [go_sem, simprocAttr, List.length_map, hth, hfit, List.drop_zero]); refine hK _ ?_; clear hK K))
          refine awp_seq_k fun K hK => ?_
          (refine awp_reg_seq [0, 3, 7, 8, 9, 56] fun K hK => ?_; (repeat' ((refine al_r rfl fun K' hK' => ?_); (repeat (simp only [go_sem, simprocAttr, List.length_map, hth, hfit, List.drop_zero])); ((refine hK' _ _ ?_) <;> clear hK' K'))); all_goals (refine al_nil ?_; (simp only [go_sem, simprocAttr, List.length_map, hth, hfit, List.drop_zero]); refine hK _ ?_; clear hK K))
          refine awp_block ?_
          -- loop 1 head [0, 3, 7, 8, 9, 56]
          refine awp_loop (fun m s => ∃ (k : Nat) (w : Int), k ≤ 8 ∧ m = 8 - k ∧ orF o.text (8 * j) (8 - k) k w = wordAt o.text (8 * j) ∧ s = ⟨ofL [(0, words h), (3, .rd [.lit (.int .i64 o.at_), .lit (.int .i64 o.kind), .lit (.int .i64 o.num), .lit (.string o.text), .sl (o.parts.map wrow)] 0), (7, .ref 0 0 V.length), (8, iD ((8 * j : Nat) : Int)), (9, wD w), (56, iD k)], [.row 1 (V.map wrow)], 0⟩) ⟨_, 0, 0, by omega, rfl, rfl, rfl⟩ ?_
          rintro m s ⟨k, w, hk, rfl, hw, rfl⟩
          (refine awp_reg_seq [0, 3, 7, 8, 9, 56, 57] fun K hK => ?_; (repeat' ((refine al_r rfl fun K' hK' => ?_); (repeat (simp only [go_sem, simprocAttr, List.length_map, hth, hfit, List.drop_zero])); ((refine hK' _ _ ?_) <;> clear hK' K'))); all_goals (refine al_nil ?_; (simp only [go_sem, simprocAttr, List.length_map, hth, hfit, List.drop_zero]); refine hK _ ?_; clear hK K))
          refine awp_seq_k fun K hK => ?_
          refine awp_if (decide ((k : Int) < 8)) rfl (fun hc => ?_) (fun hc => ?_)
          · refine awp_skip ?_
            refine hK _ ?_; clear hK K
            refine awp_seq_k fun K hK => ?_
            refine awp_block ?_
            have hk2 : k < 8 := by simp at hc; omega
            have hnk : IntKind.i64.wrap ((k : Int) + 1) = ((k + 1 : Nat) : Int) := by rw [Go.Ab.wrap_small (by omega) (by omega)]; rfl
            have hwi : IntKind.i64.wrap (((8 * j : Nat) : Int) + (k : Int)) = ((8 * j + k : Nat) : Int) := by rw [Go.Ab.wrap_small (by omega) (by omega)]; rfl
            have hm8 : IntKind.i64.wrap (8 * (k : Int)) = ((8 * k : Nat) : Int) := by rw [Go.Ab.wrap_small (by omega) (by omega)]; omega
            have h80 : (0 : Int) ≤ ((8 * k : Nat) : Int) := Int.natCast_nonneg _
            have hi0 : (0 : Int) ≤ ((8 * j + k : Nat) : Int) := Int.natCast_nonneg _
            have horf : orF o.text (8 * j) (8 - k) k w = orF o.text (8 * j) (8 - (k + 1)) (k + 1) (orStep o.text (8 * j) k w) := by
              rw [show 8 - k = (8 - (k + 1)) + 1 by omega]; rfl
            rw [horf] at hw
            (refine awp_reg_seq [0, 3, 7, 8, 9, 10, 56] fun K hK => ?_; (repeat' ((refine al_r rfl fun K' hK' => ?_); (repeat (simp only [go_sem, simprocAttr, List.length_map, hth, hfit, List.drop_zero])); ((refine hK' _ _ ?_) <;> clear hK' K'))); all_goals (refine al_nil ?_; (simp only [go_sem, simprocAttr, List.length_map, hth, hfit, List.drop_zero]); refine hK _ ?_; clear hK K))

            (refine awp_reg_seq [0, 3, 7, 8, 9, 10, 56, 65] fun K hK => ?_; (repeat' ((refine al_r rfl fun K' hK' => ?_); (repeat (simp only [go_sem, simprocAttr, hwi, hnk, hm8, h80, hi0])); ((first | refine hK' _ _ ?_ | refine ⟨?_, hK' _ _ ?_⟩) <;> clear hK' K' <;> (first | (show alist _ _ _ _ _ _; skip) | (simp; done))))); all_goals (refine al_nil ?_; (simp only [go_sem, simprocAttr, hwi, hnk, hm8, h80, hi0]); refine hK _ ?_; clear hK K))
            refine awp_if (decide (((8 * j + k : Nat) : Int) < (o.text.size : Int))) rfl (fun hc => ?_) (fun hc => ?_)
            · obtain ⟨b, hb⟩ := get_byte (s := o.text) (i := 8 * j + k) (by simp at hc; omega)
              have hos : orStep o.text (8 * j) k w = bits .or .u64 w (IntKind.u64.wrap (IntKind.u64.wrap (b.toNat : Int) * 2 ^ min (8 * k) 64)) := by unfold orStep; rw [hb]
              rw [hos] at hw

              (refine awp_reg_end [0, 3, 7, 8, 9, 56] fun K hK => ?_; (repeat' ((refine al_r rfl fun K' hK' => ?_); (repeat (simp only [go_sem, simprocAttr, hwi, hnk, hm8, h80, hi0, hb, Int.toNat_natCast])); ((refine hK' _ _ ?_) <;> clear hK' K'))); all_goals (refine al_nil ?_; (simp only [go_sem, simprocAttr, hwi, hnk, hm8, h80, hi0, hb, Int.toNat_natCast]); refine hK _ ?_; clear hK K))
              refine hK _ ?_; clear hK K
              (refine awp_reg_end [0, 3, 7, 8, 9, 56] fun K hK => ?_; (repeat' ((refine al_r rfl fun K' hK' => ?_); (repeat (simp only [go_sem, simprocAttr, hwi, hnk, hm8, h80, hi0, hb, Int.toNat_natCast])); ((refine hK' _ _ ?_) <;> clear hK' K'))); all_goals (refine al_nil ?_; (simp only [go_sem, simprocAttr, hwi, hnk, hm8, h80, hi0, hb, Int.toNat_natCast]); refine hK _ ?_; clear hK K))
              refine ⟨_, ?_, k + 1, _, hk2, rfl, hw, rfl⟩
              omega
            · have hno : o.text[8 * j + k]? = none := getElem?_neg o.text (8 * j + k) (by simp at hc; omega)

              have hos : orStep o.text (8 * j) k w = w := by unfold orStep; rw [hno]
              rw [hos] at hw
              refine awp_skip ?_
              refine hK _ ?_; clear hK K
              (refine awp_reg_end [0, 3, 7, 8, 9, 56] fun K hK => ?_; (repeat' ((refine al_r rfl fun K' hK' => ?_); (repeat (simp only [go_sem, simprocAttr, hwi, hnk, hm8, h80, hi0])); ((refine hK' _ _ ?_) <;> clear hK' K'))); all_goals (refine al_nil ?_; (simp only [go_sem, simprocAttr, hwi, hnk, hm8, h80, hi0]); refine hK _ ?_; clear hK K))
              refine ⟨_, ?_, k + 1, _, hk2, rfl, hw, rfl⟩
              omega
          · have hk8 : k = 8 := by simp at hc; omega
            subst hk8
            have hw8 : w = wordAt o.text (8 * j) := hw
            have htV : List.take V.length (V.map wrow) = V.map wrow := List.take_of_length_le (by simp)
            have hfV : (V.length + 1) * 8 ≤ 140737488355328 := by omega
            have hn8 : IntKind.i64.wrap (((8 * j : Nat) : Int) + 8) = ((8 * (j + 1) : Nat) : Int) := by rw [Go.Ab.wrap_small (by omega) (by omega)]; omega

            refine awp_exit ?_
            clear hK
            refine hK _ ?_; clear hK K
            (refine awp_reg_end [0, 3, 7, 8] fun K hK => ?_; (repeat' ((refine al_r rfl fun K' hK' => ?_); (repeat (first | (simp only [go_sem, simprocAttr, List.length_map, htV, hfV, hn8, List.drop_zero]) | refine AAp.grow ?_)); ((first | refine hK' _ _ ?_ | refine ⟨?_, ?_, hK' _ _ ?_⟩) <;> clear hK' K' <;> (first | (show alist _ _ _ _ _ _; skip) | (simp; done))))); all_goals (refine al_nil ?_; (simp only [go_sem, simprocAttr, List.length_map, htV, hfV, hn8, List.drop_zero]); refine hK _ ?_; clear hK K))
            refine hK _ ?_; clear hK K
            (refine awp_reg_end [0, 3, 7, 8] fun K hK => ?_; (repeat' ((refine al_r rfl fun K' hK' => ?_); (repeat (simp only [go_sem, simprocAttr, List.length_map, htV, hfV, hn8, List.drop_zero])); ((refine hK' _ _ ?_) <;> clear hK' K'))); all_goals (refine al_nil ?_; (simp only [go_sem, simprocAttr, List.length_map, htV, hfV, hn8, List.drop_zero]); refine hK _ ?_; clear hK K))
            refine ⟨M - (j + 1), by omega, [0, 3, 7, 8], [2], by decide, by intro q hq; exact absurd hq (Nat.not_lt_zero q), j + 1, V ++ [w], by omega, rfl, by simp; omega, ?_, ?_⟩
            · rw [← hVt, htf, hw8]; simp
            · simp only [go_sem, simprocAttr, List.length_map, htV, hfV, hn8, List.drop_zero]

        · have hjM : j = M := by simp at hc; omega
          subst hjM
          have hV2 : V = W ++ textW o.text := by rw [← hVt, Nat.sub_self]; simp [textF]
          have htV : List.take V.length (V.map wrow) = V.map wrow := List.take_of_length_le (by simp)
          have htP : List.take o.parts.length (o.parts.map wrow) = o.parts.map wrow := List.take_of_length_le (by simp)
          have hfV : (V.length + o.parts.length) * 8 ≤ 140737488355328 := by omega
          have htA : List.take (V.length + o.parts.length) (V.map wrow ++ o.parts.map wrow) = (V ++ o.parts).map wrow := by
            rw [List.take_of_length_le (by simp), List.map_append]

          refine awp_exit ?_
          clear hK
          refine hK _ ?_; clear hK K
          (refine awp_reg_seq [4, 5, 6] fun K hK => ?_; (repeat' ((refine al_r rfl fun K' hK' => ?_); (repeat (first | (simp only [go_sem, simprocAttr, List.length_map, htV, htP, hfV, htA, List.drop_zero]) | refine AAp.grow ?_)); ((first | refine hK' _ _ ?_ | refine ⟨?_, hK' _ _ ?_⟩ | refine ⟨?_, ?_, hK' _ _ ?_⟩) <;> clear hK' K' <;> (first | (show alist _ _ _ _ _ _; skip) | (intro s hs; cases hs; done) | (simp; done))))); all_goals (refine al_nil ?_; (simp only [go_sem, simprocAttr, List.length_map, htV, htP, hfV, htA, List.drop_zero]); refine hK _ ?_; clear hK K))
          refine awp_ret (hR _ _ [1] (.inl rfl) rfl (by decide) (by simp only [List.length_cons, List.length_nil]; decide) ?_)
          rw [hRW, ← List.append_assoc, ← hV2]
          refine ⟨?_, ?_⟩ <;> simp only [go_sem, simprocAttr, List.length_map, htV, htP, hfV, htA, List.drop_zero, List.length_append, List.map_append]

      (refine awp_reg_tov [0, 3, 7, 42] [(42, bD (o.kind == 1 || o.kind == 4))] (h := ?_) (k := ?_); · ((repeat' (first | ((first | refine al_r rfl fun K' hK' => ?_ | refine al_t rfl rfl fun K' hK' => ?_); (repeat (simp only [go_sem, simprocAttr, List.length_map, List.drop_zero])); ((refine hK' _ _ ?_) <;> clear hK' K')) | refine al_e rfl rfl ?_ | ((fail_if_success (refine al_t rfl rfl fun K' hK' => ?_)); refine al_s _ rfl rfl rfl (fun hb => ?_) (fun hb => ?_)))); all_goals (refine al_nil ?_; simp only [go_sem, simprocAttr, List.length_map, List.drop_zero, *, Bool.and_true, Bool.and_false, Bool.true_and, Bool.false_and, Bool.or_true, Bool.true_or, Bool.or_false, Bool.false_or, Bool.not_true, Bool.not_false, Bool.false_eq_true]))); intro K hK; (simp only [go_sem, simprocAttr, List.length_map, List.drop_zero]); refine hK _ ?_; clear hK K
      refine awp_if (numK o.kind) rfl (fun hc => ?_) (fun hc => ?_)
      · have hRa : R0 = ((h ++ [headS o] ++ [IntKind.u64.wrap o.num]) ++ (textW o.text ++ o.parts), (h.length : Int), 0) := by rw [hv]; simp [encW, numW, hc]
        have htB : List.take (h.length + 1) (h.map wrow ++ [[.lit (.int .u64 (headS o))]]) = h.map wrow ++ [[.lit (.int .u64 (headS o))]] := List.take_of_length_le (by simp)
        have hfB : (h.length + 1 + 1) * 8 ≤ 140737488355328 := by omega

        (refine awp_reg_end [0, 3, 7] fun K hK => ?_; (repeat' ((refine al_r rfl fun K' hK' => ?_); (repeat (first | (simp only [go_sem, simprocAttr, List.length_map, htB, hfB, List.drop_zero]) | refine AAp.grow ?_)); ((first | refine hK' _ _ ?_ | refine ⟨?_, ?_, hK' _ _ ?_⟩) <;> clear hK' K' <;> (first | (show alist _ _ _ _ _ _; skip) | (simp; done))))); all_goals (refine al_nil ?_; (simp only [go_sem, simprocAttr, List.length_map, htB, hfB, List.drop_zero]); refine hK _ ?_; clear hK K))
        (first
          | (refine hcut _ [0, 3, 7] [4] (by decide) (by intro q hq; exact absurd hq (Nat.not_lt_zero q)) ?_; have hk := key (h ++ [headS o] ++ [IntKind.u64.wrap o.num]) (by simp; omega) hRa; simp only [List.length_append, List.length_cons, List.length_nil, List.map_append, List.map_cons, List.map_nil, Nat.zero_add] at hk; simp only [go_sem, simprocAttr, List.length_map, htB, hfB, List.drop_zero]; exact hk)
          | (refine hcut _ [0, 3, 7] [2] (by decide) (by intro q hq; exact absurd hq (Nat.not_lt_zero q)) ?_; have hk := key (h ++ [headS o]) (by simp; omega) hRb; simp only [List.length_append, List.length_cons, List.length_nil, List.map_append, List.map_cons, List.map_nil, Nat.zero_add] at hk; simp only [go_sem, simprocAttr, List.length_map, htB, hfB, List.drop_zero]; exact hk))
      · have hRb : R0 = ((h ++ [headS o]) ++ (textW o.text ++ o.parts), (h.length : Int), 0) := by rw [hv]; simp [encW, numW, hc]

        refine awp_skip ?_
        (first
          | (refine hcut _ [0, 3, 7] [4] (by decide) (by intro q hq; exact absurd hq (Nat.not_lt_zero q)) ?_; have hk := key (h ++ [headS o] ++ [IntKind.u64.wrap o.num]) (by simp; omega) hRa; simp only [List.length_append, List.length_cons, List.length_nil, List.map_append, List.map_cons, List.map_nil, Nat.zero_add] at hk; simp only [go_sem, simprocAttr, List.length_map, List.drop_zero]; exact hk)
          | (refine hcut _ [0, 3, 7] [2] (by decide) (by intro q hq; exact absurd hq (Nat.not_lt_zero q)) ?_; have hk := key (h ++ [headS o]) (by simp; omega) hRb; simp only [List.length_append, List.length_cons, List.length_nil, List.map_append, List.map_cons, List.map_nil, Nat.zero_add] at hk; simp only [go_sem, simprocAttr, List.length_map, List.drop_zero]; exact hk))
end Go.Proofs.Ytagphggcdmjlpaa.P

/- An object that was handed in is carried on under another number. No program is named here. -/
namespace Go.Ab

theorem Is.mv {M : En} {H0 : HV} {w0 : World} {nt : Nat} {st : St} {a : Act} {w : World} (h : Is M H0 w0 nt st a w) (ts : List Nat) {ids : List Nat} (hd : ids.Nodup)
    (hp : ∀ k, k < st.n0 → ids[k]? = some k ∨ ∃ j, ids[k]? = some j ∧ st.ob.length ≤ j) :
    Is M H0 w0 nt (st.cut ts ids) a w := by
  obtain ⟨H, loc, r⟩ := h
  refine ⟨H, fun k => loc (ids.getD k 0), r.sr.ren hd, fun t => ?_, r.sz, r.df, r.gr, fun k o ho hv hr => ?_, r.n0, fun k o ho => ?_⟩
  · have e : (st.cut ts ids).tm t = keepTm ts (fun t => D.map (ren1 ids) (st.tm t)) t := rfl
    rw [e]
    rcases keepTm_is ts (fun t => D.map (ren1 ids) (st.tm t)) t with h | h
    · rw [h]; exact (r.tm t).map (leafy_ren H loc st.ob ids)
    · rw [h]; exact .none _
  · obtain ⟨i, o', hi, rfl, hx⟩ := newObs_of ho
    rw [renOb_live] at hv
    have hl : loc (ids.getD k 0) = loc i := by simp [List.getD_eq_getElem?_getD, hi]
    have hr2 : (loc (ids.getD k 0)).r = true := hr
    show M.M (loc (ids.getD k 0)).b ∨ _ ≤ (loc (ids.getD k 0)).b
    rw [hl] at hr2 ⊢
    rcases hx with hx | rfl
    · exact r.own i o' hx hv hr2
    · cases hv
  · have hk : k < st.n0 := by
      rw [← r.n0]
      rcases Nat.lt_or_ge k M.ob.length with h' | h'
      · exact h'
      · simp [List.getElem?_eq_none h'] at ho
    rcases hp k hk with hk2 | ⟨j, hj, hjl⟩
    · have hl : loc (ids.getD k 0) = loc k := by simp [List.getD_eq_getElem?_getD, hk2]
      rcases r.ent k o ho with h1 | ⟨o', h1, h2, h3⟩
      · exact .inl (newObs_get hk2 h1)
      · refine .inr ⟨_, newObs_get hk2 h1, ?_, ?_⟩
        · cases o' <;> cases o <;> simp_all [Ob.sameShape, renOb, D.mapL_eq]
        · show loc (ids.getD k 0) = _
          rw [hl]; exact h3
    · refine .inl ?_
      show (newObs st.ob ids)[k]? = some .dead
      unfold newObs
      rw [List.getElem?_map, hj, Option.map_some, List.getD_eq_getElem?_getD, List.getElem?_eq_none hjl]
      rfl

theorem awp_mv {P : Program} {nt : Nat} {Q : Exit → St → Prop} {st : St} {c : Code} (ts ids : List Nat) (hd : ids.Nodup) (hp : ∀ k, k < st.n0 → ids[k]? = some k ∨ ∃ j, ids[k]? = some j ∧ st.ob.length ≤ j)
    (h : AWp P nt c Q (st.cut ts ids)) : AWp P nt c Q st :=
  fun M H0 w0 w a hi => h M H0 w0 w a (hi.mv ts hd hp)

theorem kept3 {ids : List Nat} {n b c : Nat} (h : ids = [0, n, 2, c]) (hb : b ≤ n) : ∀ k, k < 3 → ids[k]? = some k ∨ ∃ j, ids[k]? = some j ∧ b ≤ j := by
  subst h
  intro k hk
  match k with
  | 0 => exact .inl rfl
  | 1 => exact .inr ⟨n, rfl, hb⟩
  | 2 => exact .inl rfl
section
variable {P : Program} {f : FuncId} {caps args : List D} {st : St} {K : D → St → Prop}

/-- A call to which the caller's rows are lent as data; it hands back new objects. -/
theorem acall_gn {args' : List D} {r : D} {obs2 : List Ob} (hc : ∀ args w, (callFunc f args).run P w = .ok (.enter f args) w) (h : ACalls P f args' [] (fun r' obs' => r' = r ∧ obs' = obs2)) (e : (args ++ caps).map (D.map (give [] st.ob)) = args')
    (hf : D.all flatL r) (hfo : ∀ o, o ∈ obs2 → flatOb o) (k : K (D.map (back [] st.ob.length) r) ⟨st.tm, st.ob ++ obs2.map (renOb (back [] st.ob.length)), st.n0⟩) : AC P st (.fn f caps) args K := by
  subst e
  refine .mk ⟨hc, [], _, List.nodup_nil, fun i hi => (by cases hi), .inr ⟨h, ?_⟩⟩
  rintro r' obs' ⟨rfl, rfl⟩
  refine ⟨Nat.zero_le _, hf, hfo, ?_⟩
  simpa [merge, setAll] using k
end

theorem kept012 {l : List Nat} : ∀ k, k < 3 → (0 :: 1 :: 2 :: l)[k]? = some k := by
  intro k hk
  match k with
  | 0 => rfl
  | 1 => rfl
  | 2 => rfl
end Go.Ab

