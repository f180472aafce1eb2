/- PickAgain: the walk. -/
import Derived.Test.YtofbhmcmejhepaaD9
set_option linter.unusedSimpArgs false
set_option linter.unusedVariables false
set_option maxHeartbeats 1000000
namespace Go.Proofs.Ytofbhmcmejhepaa.P
open Go.Ab Go.Proofs.Ytofbhmcmejhepaa.T

abbrev z0 : Letter := ⟨0, 0, 0, 0, ByteArray.empty, 0, 0, ByteArray.empty, []⟩
theorem z0_shaped : Shaped z0 := ⟨2, leaf 0 0 _ (by decide) (by decide) (by simp [maxLen])⟩

theorem take_form {ls : List Letter} (hs : ∀ y, y ∈ ls → Shaped y) (hlen : ls.length ≤ maxLen) : ∀ r : Option Nat, (∀ i, r = some i → i < ls.length) →
    ∃ (L : List Letter) (n : Int) (y : Letter) (b : Bool), takeD ls r = .tup [boxD L n, letterD y, bD b, iD 0] ∧ (∀ z, z ∈ L → Shaped z) ∧ L.length ≤ maxLen ∧ Shaped y
  | none, _ => ⟨ls, ls.length, z0, false, rfl, hs, hlen, z0_shaped⟩
  | some i, h => by
    obtain ⟨x, hx⟩ := get_of_lt (h i rfl)
    refine ⟨ls.eraseIdx i, 0, x, true, by simp [takeD, hx], fun z hz => hs z (List.mem_of_mem_eraseIdx hz), Nat.le_trans (List.length_eraseIdx_le ls i) hlen, hs x (List.mem_of_getElem? hx)⟩

theorem takeF_lt (g : Int → Letter → Int × Bool) : ∀ (l : List Letter) (k : Nat) (s : Int) (i : Nat), (takeF g l k s).2 = some i → k ≤ i ∧ i < k + l.length
  | [], _, _, _, h => by cases h
  | x :: l, k, s, i, h => by
    unfold takeF at h
    split at h
    · cases h; simp
    · have := takeF_lt g l (k + 1) _ i h
      simp only [List.length_cons]; omega

theorem takeF_skip {g : Int → Letter → Int × Bool} (hg : ∀ s x, (g s x).1 = s) {ls : List Letter} {s : Int} : ∀ (m k : Nat), k + m ≤ ls.length → (∀ j, k ≤ j → j < k + m → ∀ y, ls[j]? = some y → (g s y).2 = false) → takeF g (ls.drop k) k s = takeF g (ls.drop (k + m)) (k + m) s
  | 0, k, _, _ => rfl
  | m + 1, k, hk, h => by
    obtain ⟨x, hx⟩ := get_of_lt (l := ls) (i := k) (by omega)
    rw [drop_of hx]
    have h1 := h k (Nat.le_refl _) (by omega) x hx
    have : takeF g (x :: ls.drop (k + 1)) k s = takeF g (ls.drop (k + 1)) (k + 1) s := by
      show (if (g s x).2 then _ else _) = _
      rw [h1, hg]
      try rfl
    rw [this, takeF_skip hg m (k + 1) (by omega) (fun j hj1 hj2 => h j (by omega) (by omega)), show k + 1 + m = k + (m + 1) by omega]

theorem checkS_zero {ls : List Letter} {p : Int} (h : checkS ls p = 0) : checkS ls ((0 : Nat) : Int) = 0 := by
  unfold checkS at h ⊢
  split at h
  · cases h
  · rename_i h1
    rw [if_neg h1]
    split at h
    · cases h
    · rw [if_neg (by simp)]
      exact h


theorem againBad (ls : List Letter) (takes : List Int) (pos e : Int) (A : Bool) (hck : ACallP Try.prog 21 [boxD ls pos] (iD e)) (hany : ACallP Try.prog 29 [letters ls, .fn 30 []] (bD A)) (h : ((e != 0) || A) = true) :
    ACallP Try.prog 9 [boxD ls pos, ints takes] (bD true) := by
  obtain ⟨B, hB⟩ : ∃ B, (e != 0) = B := ⟨_, rfl⟩
  rw [hB] at h
  refine acallp_fn [4] Try.func9 rfl rfl Try.ntmps9 (by simp) fun R hR => ?_
  (refine awp_reg_seq [2, 3] fun K hK => ?_; (repeat' (first | ((first | refine al_r rfl fun K' hK' => ?_ | refine al_d rfl fun K' hK' => ?_ | refine al_t rfl rfl fun K' hK' => ?_); (repeat (first | (simp only [go_sem, simprocAttr, List.length_map]) | refine AS.mk ?_ | refine AAp.grow ?_)); (first | ((first | refine hK' _ _ ?_ | refine ⟨?_, hK' _ _ ?_⟩ | refine ⟨?_, ?_, hK' _ _ ?_⟩ | refine ⟨?_, ?_, ?_, hK' _ _ ?_⟩) <;> clear hK' K' <;> (first | (show alist _ _ _ _ _ _; skip) | (intro s hs; cases hs; done) | assumption | (simp; done) | omega | (simp; omega) | skip)))) | refine al_e rfl rfl ?_ | refine al_u rfl rfl ?_ | ((fail_if_success (refine al_t rfl rfl fun K' hK' => ?_)); refine al_s _ rfl rfl rfl (fun hb => ?_) (fun hb => ?_)))); all_goals (refine al_nil ?_; (simp only [go_sem, simprocAttr, List.length_map]); refine hK _ ?_; clear hK K))
  (refine awp_frz [2, 3] [] (by decide) (by simp) ?_; simp only [go_sem, simprocAttr, List.length_map])
  refine awp_seq_k fun K hK => ?_

  refine awp_reg_tov [2, 3, 29] [(29, bD true)] (h := ?_) (k := ?_)
  · cases A <;> cases B <;> first | (cases h; done) | skip
    all_goals ((repeat' (first | ((first | refine al_r rfl fun K' hK' => ?_ | refine al_d rfl fun K' hK' => ?_ | refine al_t rfl rfl fun K' hK' => ?_); (repeat (first | (simp only [go_sem, simprocAttr, List.length_map, hB]) | refine AS.mk ?_ | refine AAp.grow ?_)); (first | ((first | refine hK' _ _ ?_ | refine ⟨?_, hK' _ _ ?_⟩ | refine ⟨?_, ?_, hK' _ _ ?_⟩ | refine ⟨?_, ?_, ?_, hK' _ _ ?_⟩) <;> clear hK' K' <;> (first | (show alist _ _ _ _ _ _; skip) | (intro s hs; cases hs; done) | assumption | (simp; done) | omega | (simp; omega) | skip)) | ((show AC _ _ (D.fn 25 _) _ _); refine acall_p (f := 25) (e := rfl) (hr := rfl) (k := hK' _ _ ?_) (hc := Try.call25) (h := picks); clear hK' K') | ((show AC _ _ (D.fn 21 _) _ _); refine acall_p (f := 21) (e := rfl) (hr := rfl) (k := hK' _ _ ?_) (hc := Try.call21) (h := hck); clear hK' K') | ((show AC _ _ (D.fn 29 _) _ _); refine acall_p (f := 29) (e := rfl) (hr := rfl) (k := hK' _ _ ?_) (hc := Try.call29) (h := hany); clear hK' K'))) | refine al_e rfl rfl ?_ | refine al_u rfl rfl ?_ | ((fail_if_success (refine al_t rfl rfl fun K' hK' => ?_)); refine al_s _ rfl rfl rfl (fun hb => ?_) (fun hb => ?_)))); all_goals (refine al_nil ?_; (first | (simp only [go_sem, simprocAttr, List.length_map, hB, *, Bool.and_true, Bool.and_false, Bool.true_and, Bool.false_and, Bool.or_true, Bool.true_or, Bool.or_false, Bool.false_or, Bool.not_true, Bool.not_false, Bool.false_eq_true]; done) | contradiction | (simp_all; done) | simp only [go_sem, simprocAttr, List.length_map, hB, *, Bool.and_true, Bool.and_false, Bool.true_and, Bool.false_and, Bool.or_true, Bool.true_or, Bool.or_false, Bool.false_or, Bool.not_true, Bool.not_false, Bool.false_eq_true])))
  (intro K hK; (simp only [go_sem, simprocAttr, List.length_map, hB]); refine hK _ ?_; clear hK K)
  refine awp_if (_) rfl (fun hc => ?_) (fun hc => ?_)
  · (refine awp_reg_seq [4] fun K hK => ?_; (repeat' (first | ((first | refine al_r rfl fun K' hK' => ?_ | refine al_d rfl fun K' hK' => ?_ | refine al_t rfl rfl fun K' hK' => ?_); (repeat (first | (simp only [go_sem, simprocAttr, List.length_map, hB]) | refine AS.mk ?_ | refine AAp.grow ?_)); (first | ((first | refine hK' _ _ ?_ | refine ⟨?_, hK' _ _ ?_⟩ | refine ⟨?_, ?_, hK' _ _ ?_⟩ | refine ⟨?_, ?_, ?_, hK' _ _ ?_⟩) <;> clear hK' K' <;> (first | (show alist _ _ _ _ _ _; skip) | (intro s hs; cases hs; done) | assumption | (simp; done) | omega | (simp; omega) | skip)) | ((show AC _ _ (D.fn 25 _) _ _); refine acall_p (f := 25) (e := rfl) (hr := rfl) (k := hK' _ _ ?_) (hc := Try.call25) (h := picks); clear hK' K'))) | refine al_e rfl rfl ?_ | refine al_u rfl rfl ?_ | ((fail_if_success (refine al_t rfl rfl fun K' hK' => ?_)); refine al_s _ rfl rfl rfl (fun hb => ?_) (fun hb => ?_)))); all_goals (refine al_nil ?_; (simp only [go_sem, simprocAttr, List.length_map, hB]); refine hK _ ?_; clear hK K))
    all_goals (refine awp_ret ?_; (first | refine hR _ _ (.inl rfl) rfl ?_ | refine hR _ _ (.inl rfl) rfl ?_ ?_); (first | (simp only [go_sem, simprocAttr, List.length_map, hB, *, Bool.and_true, Bool.and_false, Bool.true_and, Bool.false_and, Bool.or_true, Bool.true_or, Bool.or_false, Bool.false_or, Bool.not_true, Bool.not_false, Bool.false_eq_true]; done) | contradiction | (simp_all; done) | simp only [go_sem, simprocAttr, List.length_map, hB, *, Bool.and_true, Bool.and_false, Bool.true_and, Bool.false_and, Bool.or_true, Bool.true_or, Bool.or_false, Bool.false_or, Bool.not_true, Bool.not_false, Bool.false_eq_true]))
  · cases hc


theorem againGood (ls : List Letter) (takes : List Int) (p : Nat) (htl : takes.length ≤ maxLen) (hs : ∀ y, y ∈ ls → Shaped y) (h0 : checkS ls p = 0) (hany : ACallP Try.prog 29 [letters ls, .fn 30 []] (bD false)) :
    ACallP Try.prog 9 [boxD ls p, ints takes] (bD true) := by
  have h60 := checkS_small h0
  have hpl := checkS_pos h0
  have hlen : ls.length ≤ maxLen := by simp [maxLen]; omega
  have hck := check ls p hlen
  rw [h0] at hck
  have hag := again ls p h0
  have hrw := lrow9 ls
  have hp0 : (0 : Int) ≤ (p : Int) := Int.natCast_nonneg p
  have hp1 : (p : Int) ≤ (ls.length : Int) := by omega
  have htk : List.take p (ls.map Letter.row) = (ls.take p).map Letter.row := by rw [List.map_take]
  have htl2 : (ls.take p).length = p := by rw [List.length_take]; omega
  refine acallp_fn [4] Try.func9 rfl rfl Try.ntmps9 (by simp) fun R hR => ?_
  (refine awp_reg_seq [2, 3] fun K hK => ?_; (repeat' (first | ((first | refine al_r rfl fun K' hK' => ?_ | refine al_d rfl fun K' hK' => ?_ | refine al_t rfl rfl fun K' hK' => ?_); (repeat (first | (simp only [go_sem, simprocAttr, List.length_map, bne_self_eq_false]) | refine AS.mk ?_ | refine AAp.grow ?_)); (first | ((first | refine hK' _ _ ?_ | refine ⟨?_, hK' _ _ ?_⟩ | refine ⟨?_, ?_, hK' _ _ ?_⟩ | refine ⟨?_, ?_, ?_, hK' _ _ ?_⟩) <;> clear hK' K' <;> (first | (show alist _ _ _ _ _ _; skip) | (intro s hs; cases hs; done) | assumption | (simp; done) | omega | (simp; omega) | skip)))) | refine al_e rfl rfl ?_ | refine al_u rfl rfl ?_ | ((fail_if_success (refine al_t rfl rfl fun K' hK' => ?_)); refine al_s _ rfl rfl rfl (fun hb => ?_) (fun hb => ?_)))); all_goals (refine al_nil ?_; (simp only [go_sem, simprocAttr, List.length_map, bne_self_eq_false]); refine hK _ ?_; clear hK K))
  (refine awp_frz [2, 3] [1] (by decide) (by simp) ?_; simp only [go_sem, simprocAttr, List.length_map, bne_self_eq_false])
  refine awp_seq_k fun K hK => ?_
  refine awp_reg_tov [2, 3, 29] [(29, bD false)] (h := ?_) (k := ?_)
  · all_goals ((repeat' (first | ((first | refine al_r rfl fun K' hK' => ?_ | refine al_d rfl fun K' hK' => ?_ | refine al_t rfl rfl fun K' hK' => ?_); (repeat (first | (simp only [go_sem, simprocAttr, List.length_map, bne_self_eq_false]) | refine AS.mk ?_ | refine AAp.grow ?_)); (first | ((first | refine hK' _ _ ?_ | refine ⟨?_, hK' _ _ ?_⟩ | refine ⟨?_, ?_, hK' _ _ ?_⟩ | refine ⟨?_, ?_, ?_, hK' _ _ ?_⟩) <;> clear hK' K' <;> (first | (show alist _ _ _ _ _ _; skip) | (intro s hs; cases hs; done) | assumption | (simp; done) | omega | (simp; omega) | skip)) | ((show AC _ _ (D.fn 25 _) _ _); refine acall_p (f := 25) (e := rfl) (hr := rfl) (k := hK' _ _ ?_) (hc := Try.call25) (h := picks); clear hK' K') | ((show AC _ _ (D.fn 21 _) _ _); refine acall_p (f := 21) (e := rfl) (hr := rfl) (k := hK' _ _ ?_) (hc := Try.call21) (h := hck); clear hK' K') | ((show AC _ _ (D.fn 29 _) _ _); refine acall_p (f := 29) (e := rfl) (hr := rfl) (k := hK' _ _ ?_) (hc := Try.call29) (h := hany); clear hK' K') | ((show AC _ _ (D.fn 25 _) _ _); refine acall_p (f := 25) (e := rfl) (hr := rfl) (k := hK' _ _ ?_) (hc := Try.call25) (h := picks); clear hK' K') | ((show AC _ _ (D.fn 21 _) _ _); refine acall_p (f := 21) (e := rfl) (hr := rfl) (k := hK' _ _ ?_) (hc := Try.call21) (h := hck); clear hK' K') | ((show AC _ _ (D.fn 29 _) _ _); refine acall_p (f := 29) (e := rfl) (hr := rfl) (k := hK' _ _ ?_) (hc := Try.call29) (h := hany); clear hK' K'))) | refine al_e rfl rfl ?_ | refine al_u rfl rfl ?_ | ((fail_if_success (refine al_t rfl rfl fun K' hK' => ?_)); refine al_s _ rfl rfl rfl (fun hb => ?_) (fun hb => ?_)))); all_goals (refine al_nil ?_; (first | (simp only [go_sem, simprocAttr, List.length_map, bne_self_eq_false, *, Bool.and_true, Bool.and_false, Bool.true_and, Bool.false_and, Bool.or_true, Bool.true_or, Bool.or_false, Bool.false_or, Bool.not_true, Bool.not_false, Bool.false_eq_true]; done) | contradiction | (simp_all; done) | simp only [go_sem, simprocAttr, List.length_map, bne_self_eq_false, *, Bool.and_true, Bool.and_false, Bool.true_and, Bool.false_and, Bool.or_true, Bool.true_or, Bool.or_false, Bool.false_or, Bool.not_true, Bool.not_false, Bool.false_eq_true])))
  (intro K hK; (simp only [go_sem, simprocAttr, List.length_map, bne_self_eq_false]); refine hK _ ?_; clear hK K)
  refine awp_if (_) rfl (fun hc => ?_) (fun hc => ?_)
  · cases hc
  · refine awp_skip ?_
    refine hK _ ?_; clear hK K
    (refine awp_reg_seq [2, 5] fun K hK => ?_; (repeat' (first | ((first | refine al_r rfl fun K' hK' => ?_ | refine al_d rfl fun K' hK' => ?_ | refine al_t rfl rfl fun K' hK' => ?_); (repeat (first | (simp only [go_sem, simprocAttr, List.length_map, bne_self_eq_false]) | refine AS.mk ?_ | refine AAp.grow ?_)); (first | ((first | refine hK' _ _ ?_ | refine ⟨?_, hK' _ _ ?_⟩ | refine ⟨?_, ?_, hK' _ _ ?_⟩ | refine ⟨?_, ?_, ?_, hK' _ _ ?_⟩) <;> clear hK' K' <;> (first | (show alist _ _ _ _ _ _; skip) | (intro s hs; cases hs; done) | assumption | (simp; done) | omega | (simp; omega) | skip)))) | refine al_e rfl rfl ?_ | refine al_u rfl rfl ?_ | ((fail_if_success (refine al_t rfl rfl fun K' hK' => ?_)); refine al_s _ rfl rfl rfl (fun hb => ?_) (fun hb => ?_)))); all_goals (refine al_nil ?_; (simp only [go_sem, simprocAttr, List.length_map, bne_self_eq_false]); refine hK _ ?_; clear hK K))
    refine awp_seq_k fun K hK => ?_

    (refine awp_reg_seq [2, 5, 36, 37, 38] fun K hK => ?_; (repeat' (first | ((first | refine al_r rfl fun K' hK' => ?_ | refine al_d rfl fun K' hK' => ?_ | refine al_t rfl rfl fun K' hK' => ?_); (repeat (first | (simp only [go_sem, simprocAttr, List.length_map, hp0, hp1, hpl, htk, htl2, Int.toNat_natCast, List.length_take]) | refine AS.mk ?_ | refine AAp.grow ?_)); (first | ((first | refine hK' _ _ ?_ | refine ⟨?_, hK' _ _ ?_⟩ | refine ⟨?_, ?_, hK' _ _ ?_⟩ | refine ⟨?_, ?_, ?_, hK' _ _ ?_⟩) <;> clear hK' K' <;> (first | (show alist _ _ _ _ _ _; skip) | (intro s hs; cases hs; done) | assumption | (simp; done) | omega | (simp; omega) | skip)))) | refine al_e rfl rfl ?_ | refine al_u rfl rfl ?_ | ((fail_if_success (refine al_t rfl rfl fun K' hK' => ?_)); refine al_s _ rfl rfl rfl (fun hb => ?_) (fun hb => ?_)))); all_goals (refine al_nil ?_; (simp only [go_sem, simprocAttr, List.length_map, hp0, hp1, hpl, htk, htl2, Int.toNat_natCast, List.length_take]); refine hK _ ?_; clear hK K))
    refine awp_block ?_
    -- loop 0 head [2, 5, 36, 37, 38]
    refine awp_loop (fun m s => ∃ i : Nat, i ≤ p ∧ m = p - i ∧ (∀ j, j < i → ∀ y, ls[j]? = some y → takesB takes y = false) ∧ s = ⟨ofL [(2, .rd [.sl (ls.map Letter.row), .lit (.int .i64 p)] 0), (5, .fn 31 [.ptr 0 0 0]), (36, .p (.sl ((ls.take p).map Letter.row))), (37, iD p), (38, iD i)], [.box [ints takes]], 0⟩) ⟨_, 0, Nat.zero_le _, rfl, fun j hj => absurd hj (by omega), rfl⟩ ?_
    rintro m s ⟨i, hi, rfl, hbef, rfl⟩
    (refine awp_reg_seq [2, 5, 36, 37, 38, 39] fun K hK => ?_; (repeat' (first | ((first | refine al_r rfl fun K' hK' => ?_ | refine al_d rfl fun K' hK' => ?_ | refine al_t rfl rfl fun K' hK' => ?_); (repeat (first | (simp only [go_sem, simprocAttr, List.length_map, hp0, hp1, hpl, htk, htl2, Int.toNat_natCast, List.length_take]) | refine AS.mk ?_ | refine AAp.grow ?_)); (first | ((first | refine hK' _ _ ?_ | refine ⟨?_, hK' _ _ ?_⟩ | refine ⟨?_, ?_, hK' _ _ ?_⟩ | refine ⟨?_, ?_, ?_, hK' _ _ ?_⟩) <;> clear hK' K' <;> (first | (show alist _ _ _ _ _ _; skip) | (intro s hs; cases hs; done) | assumption | (simp; done) | omega | (simp; omega) | skip)))) | refine al_e rfl rfl ?_ | refine al_u rfl rfl ?_ | ((fail_if_success (refine al_t rfl rfl fun K' hK' => ?_)); refine al_s _ rfl rfl rfl (fun hb => ?_) (fun hb => ?_)))); all_goals (refine al_nil ?_; (simp only [go_sem, simprocAttr, List.length_map, hp0, hp1, hpl, htk, htl2, Int.toNat_natCast, List.length_take]); refine hK _ ?_; clear hK K))
    refine awp_seq_k fun K hK => ?_
    refine awp_if (decide ((i : Int) < p)) rfl (fun hc => ?_) (fun hc => ?_)
    · refine awp_skip ?_
      refine hK _ ?_; clear hK K
      refine awp_seq_k fun K hK => ?_
      refine awp_block ?_
      have hi2 : i < p := by simpa using hc
      obtain ⟨x, hget⟩ := get_of_lt (l := ls) (i := i) (by omega)
      have hgt : (ls.take p)[i]? = some x := by rw [List.getElem?_take_of_lt hi2]; exact hget
      have hnn : (0 : Int) ≤ (i : Int) := Int.natCast_nonneg i
      have hnx : IntKind.i64.wrap ((i : Int) + 1) = ((i + 1 : Nat) : Int) := wrap_next (n := ls.length) (by omega) hlen
      have hme := message x
      have hcx := takesClo takes htl x

      (refine awp_reg_seq [2, 5, 7, 36, 37, 38] fun K hK => ?_; (repeat' (first | ((first | refine al_r rfl fun K' hK' => ?_ | refine al_d rfl fun K' hK' => ?_ | refine al_t rfl rfl fun K' hK' => ?_); (repeat (first | (simp only [go_sem, simprocAttr, hgt, hnn, hi2, hnx, htl2, Int.toNat_natCast, List.getElem?_map, Option.map_some, List.length_map, Letter.row]) | refine AS.mk ?_ | refine AAp.grow ?_)); (first | ((first | refine hK' _ _ ?_ | refine ⟨?_, hK' _ _ ?_⟩ | refine ⟨?_, ?_, hK' _ _ ?_⟩ | refine ⟨?_, ?_, ?_, hK' _ _ ?_⟩) <;> clear hK' K' <;> (first | (show alist _ _ _ _ _ _; skip) | (intro s hs; cases hs; done) | assumption | (simp; done) | omega | (simp; omega) | skip)))) | refine al_e rfl rfl ?_ | refine al_u rfl rfl ?_ | ((fail_if_success (refine al_t rfl rfl fun K' hK' => ?_)); refine al_s _ rfl rfl rfl (fun hb => ?_) (fun hb => ?_)))); all_goals (refine al_nil ?_; (simp only [go_sem, simprocAttr, hgt, hnn, hi2, hnx, htl2, Int.toNat_natCast, List.getElem?_map, Option.map_some, List.length_map, Letter.row]); refine hK _ ?_; clear hK K))
      (refine awp_frz [2, 5, 7, 36, 37, 38] [0] (by decide) (by simp) ?_; simp only [go_sem, simprocAttr, hgt, hnn, hi2, hnx, htl2, Int.toNat_natCast, List.getElem?_map, Option.map_some, List.length_map, Letter.row])
      (refine awp_reg_seq [2, 5, 36, 37, 38, 45] fun K hK => ?_; (repeat' (first | ((first | refine al_r rfl fun K' hK' => ?_ | refine al_d rfl fun K' hK' => ?_ | refine al_t rfl rfl fun K' hK' => ?_); (repeat (first | (simp only [go_sem, simprocAttr, hgt, hnn, hi2, hnx, htl2, Int.toNat_natCast, List.getElem?_map, Option.map_some, List.length_map, Letter.row]) | refine AS.mk ?_ | refine AAp.grow ?_)); (first | ((first | refine hK' _ _ ?_ | refine ⟨?_, hK' _ _ ?_⟩ | refine ⟨?_, ?_, hK' _ _ ?_⟩ | refine ⟨?_, ?_, ?_, hK' _ _ ?_⟩) <;> clear hK' K' <;> (first | (show alist _ _ _ _ _ _; skip) | (intro s hs; cases hs; done) | assumption | (simp; done) | omega | (simp; omega) | skip)) | ((show AC _ _ (D.fn 25 _) _ _); refine acall_p (f := 25) (e := rfl) (hr := rfl) (k := hK' _ _ ?_) (hc := Try.call25) (h := picks); clear hK' K') | ((show AC _ _ (D.fn 21 _) _ _); refine acall_p (f := 21) (e := rfl) (hr := rfl) (k := hK' _ _ ?_) (hc := Try.call21) (h := hck); clear hK' K') | ((show AC _ _ (D.fn 29 _) _ _); refine acall_p (f := 29) (e := rfl) (hr := rfl) (k := hK' _ _ ?_) (hc := Try.call29) (h := hany); clear hK' K') | ((show AC _ _ (D.fn 25 _) _ _); refine acall_p (f := 25) (e := rfl) (hr := rfl) (k := hK' _ _ ?_) (hc := Try.call25) (h := picks); clear hK' K') | ((show AC _ _ (D.fn 21 _) _ _); refine acall_p (f := 21) (e := rfl) (hr := rfl) (k := hK' _ _ ?_) (hc := Try.call21) (h := hck); clear hK' K') | ((show AC _ _ (D.fn 29 _) _ _); refine acall_p (f := 29) (e := rfl) (hr := rfl) (k := hK' _ _ ?_) (hc := Try.call29) (h := hany); clear hK' K') | ((show AC _ _ (D.fn 33 _) _ _); refine acall_p (f := 33) (e := rfl) (hr := rfl) (k := hK' _ _ ?_) (hc := Try.call33) (h := hme); clear hK' K') | ((show AC _ _ (D.fn 31 _) _ _); refine acall_m (f := 31) [0] Try.call31 hcx rfl rfl (by decide) (by simp) ?_; rintro r obs' ⟨rfl, rfl⟩; refine ⟨by simp, ?_⟩; (simp only [go_sem, simprocAttr, hgt, hnn, hi2, hnx, htl2, Int.toNat_natCast, List.getElem?_map, Option.map_some, List.length_map, Letter.row]); refine hK' _ _ ?_; clear hK' K') | ((show AC _ _ (D.fn 34 _) _ _); refine acall_p (f := 34) (e := rfl) (hr := rfl) (k := hK' _ _ ?_) (hc := Try.call34) (h := hag); clear hK' K') | ((show AC _ _ (D.fn 35 _) _ _); refine acall_m (f := 35) [0] Try.call35 hta rfl rfl (by decide) (by simp) ?_; rintro r obs' ⟨rfl, rfl⟩; refine ⟨by simp, ?_⟩; (simp only [go_sem, simprocAttr, hgt, hnn, hi2, hnx, htl2, Int.toNat_natCast, List.getElem?_map, Option.map_some, List.length_map, Letter.row]); refine hK' _ _ ?_; clear hK' K') | ((show AC _ _ (D.fn 35 _) _ _); refine acall_m (f := 35) [0] Try.call35 htb rfl rfl (by decide) (by simp) ?_; rintro r obs' ⟨rfl, rfl⟩; refine ⟨by simp, ?_⟩; (simp only [go_sem, simprocAttr, hgt, hnn, hi2, hnx, htl2, Int.toNat_natCast, List.getElem?_map, Option.map_some, List.length_map, Letter.row]); refine hK' _ _ ?_; clear hK' K') | ((show AC _ _ (D.fn 15 _) _ _); refine acall_w [] (by decide) (by simp) (f := 15) (e := rfl) (hr := fun _ => rfl) (k := hK' _ _ ?_) (hc := Try.call15) (h := good000); clear hK' K') | ((show AC _ _ (D.fn 36 _) _ _); refine acall_p (f := 36) (e := rfl) (hr := rfl) (k := hK' _ _ ?_) (hc := Try.call36) (h := hsx); clear hK' K') | ((show AC _ _ (D.fn 37 _) _ _); refine acall_p (f := 37) (e := rfl) (hr := rfl) (k := hK' _ _ ?_) (hc := Try.call37) (h := hsb); clear hK' K'))) | refine al_e rfl rfl ?_ | refine al_u rfl rfl ?_ | ((fail_if_success (refine al_t rfl rfl fun K' hK' => ?_)); refine al_s _ rfl rfl rfl (fun hb => ?_) (fun hb => ?_)))); all_goals (refine al_nil ?_; (simp only [go_sem, simprocAttr, hgt, hnn, hi2, hnx, htl2, Int.toNat_natCast, List.getElem?_map, Option.map_some, List.length_map, Letter.row]); refine hK _ ?_; clear hK K))
      refine awp_if (takesB takes x) rfl (fun hc => ?_) (fun hc => ?_)
      · (refine awp_reg_seq [4] fun K hK => ?_; (repeat' (first | ((first | refine al_r rfl fun K' hK' => ?_ | refine al_d rfl fun K' hK' => ?_ | refine al_t rfl rfl fun K' hK' => ?_); (repeat (first | (simp only [go_sem, simprocAttr, hgt, hnn, hi2, hnx, htl2, Int.toNat_natCast, List.getElem?_map, Option.map_some, List.length_map, Letter.row]) | refine AS.mk ?_ | refine AAp.grow ?_)); (first | ((first | refine hK' _ _ ?_ | refine ⟨?_, hK' _ _ ?_⟩ | refine ⟨?_, ?_, hK' _ _ ?_⟩ | refine ⟨?_, ?_, ?_, hK' _ _ ?_⟩) <;> clear hK' K' <;> (first | (show alist _ _ _ _ _ _; skip) | (intro s hs; cases hs; done) | assumption | (simp; done) | omega | (simp; omega) | skip)))) | refine al_e rfl rfl ?_ | refine al_u rfl rfl ?_ | ((fail_if_success (refine al_t rfl rfl fun K' hK' => ?_)); refine al_s _ rfl rfl rfl (fun hb => ?_) (fun hb => ?_)))); all_goals (refine al_nil ?_; (simp only [go_sem, simprocAttr, hgt, hnn, hi2, hnx, htl2, Int.toNat_natCast, List.getElem?_map, Option.map_some, List.length_map, Letter.row]); refine hK _ ?_; clear hK K))
        all_goals (refine awp_ret ?_; (first | refine hR _ _ (.inl rfl) rfl ?_ | refine hR _ _ (.inl rfl) rfl ?_ ?_); (first | (simp only [go_sem, simprocAttr, hgt, hnn, hi2, hnx, htl2, Int.toNat_natCast, List.getElem?_map, Option.map_some, List.length_map, Letter.row, *, Bool.and_true, Bool.and_false, Bool.true_and, Bool.false_and, Bool.or_true, Bool.true_or, Bool.or_false, Bool.false_or, Bool.not_true, Bool.not_false, Bool.false_eq_true]; done) | contradiction | (simp_all; done) | simp only [go_sem, simprocAttr, hgt, hnn, hi2, hnx, htl2, Int.toNat_natCast, List.getElem?_map, Option.map_some, List.length_map, Letter.row, *, Bool.and_true, Bool.and_false, Bool.true_and, Bool.false_and, Bool.or_true, Bool.true_or, Bool.or_false, Bool.false_or, Bool.not_true, Bool.not_false, Bool.false_eq_true]))
      · have hno := hc
        refine awp_skip ?_
        refine hK _ ?_; clear hK K
        (refine awp_reg_end [2, 5, 36, 37, 38] fun K hK => ?_; (repeat' (first | ((first | refine al_r rfl fun K' hK' => ?_ | refine al_d rfl fun K' hK' => ?_ | refine al_t rfl rfl fun K' hK' => ?_); (repeat (first | (simp only [go_sem, simprocAttr, hgt, hnn, hi2, hnx, htl2, Int.toNat_natCast, List.getElem?_map, Option.map_some, List.length_map, Letter.row]) | refine AS.mk ?_ | refine AAp.grow ?_)); (first | ((first | refine hK' _ _ ?_ | refine ⟨?_, hK' _ _ ?_⟩ | refine ⟨?_, ?_, hK' _ _ ?_⟩ | refine ⟨?_, ?_, ?_, hK' _ _ ?_⟩) <;> clear hK' K' <;> (first | (show alist _ _ _ _ _ _; skip) | (intro s hs; cases hs; done) | assumption | (simp; done) | omega | (simp; omega) | skip)))) | refine al_e rfl rfl ?_ | refine al_u rfl rfl ?_ | ((fail_if_success (refine al_t rfl rfl fun K' hK' => ?_)); refine al_s _ rfl rfl rfl (fun hb => ?_) (fun hb => ?_)))); all_goals (refine al_nil ?_; (simp only [go_sem, simprocAttr, hgt, hnn, hi2, hnx, htl2, Int.toNat_natCast, List.getElem?_map, Option.map_some, List.length_map, Letter.row]); refine hK _ ?_; clear hK K))
        refine ⟨_, ?_, i + 1, hi2, rfl, ?_, rfl⟩
        · omega
        · intro j hj y hy
          rcases Nat.lt_succ_iff_lt_or_eq.1 hj with h | rfl
          · exact hbef j h y hy
          · rw [hget] at hy; cases hy; exact hno

    · have hie : i = p := by simp at hc; omega
      subst hie
      have hR : takeF (fun s y => (s, takesB takes y)) (ls.drop 0) 0 0 = takeF (fun s y => (s, takesB takes y)) (ls.drop i) i 0 := by
        have := takeF_skip (g := fun s y => (s, takesB takes y)) (fun _ _ => rfl) (ls := ls) (s := 0) i 0 (by omega) (fun j _ hj y hy => hbef j (by omega) y hy)
        rwa [Nat.zero_add] at this
      have hta0 := takeT takes (fun s y => (s, takesB takes y)) ls i 0 h0 hs (fun s y _ => takesClo takes htl y)
      have htb0 := takeT takes (fun s y => (s, takesB takes y)) ls 0 0 (by rw [checkS_zero h0]) hs (fun s y _ => takesClo takes htl y)
      rw [hR] at htb0
      have hlt := takeF_lt (fun s y => (s, takesB takes y)) (ls.drop i) i 0
      generalize takeF (fun s y => (s, takesB takes y)) (ls.drop i) i 0 = Q at hta0 htb0 hlt
      obtain ⟨L, n, y, b, hD, hL, hLl, hy⟩ := take_form hs hlen Q.2 (fun k hk => by have := (hlt k hk).2; rw [List.length_drop] at this; omega)
      rw [hD] at hta0 htb0
      have hta : ACalls Try.prog 35 [boxD ls i, .fn 31 [.ptr 0 0 0]] [.box [ints takes]] (fun r obs' => r = .tup [boxD L n, letterD y, bD b, iD 0] ∧ obs' = [.box [ints takes]]) := hta0
      have htb : ACalls Try.prog 35 [boxD ls 0, .fn 31 [.ptr 0 0 0]] [.box [ints takes]] (fun r obs' => r = .tup [boxD L n, letterD y, bD b, iD 0] ∧ obs' = [.box [ints takes]]) := htb0
      clear hta0 htb0 hR hlt
      have hsx := sameLetter y hy
      have hsb := sameBox L n hLl hL
      refine awp_exit ?_
      clear hK
      refine hK _ ?_; clear hK K
      (refine awp_reg_seq [2, 5, 8, 9] fun K hK => ?_; (repeat' (first | ((first | refine al_r rfl fun K' hK' => ?_ | refine al_d rfl fun K' hK' => ?_ | refine al_t rfl rfl fun K' hK' => ?_); (repeat (first | (simp only [go_sem, simprocAttr, List.length_map, bne_self_eq_false]) | refine AS.mk ?_ | refine AAp.grow ?_)); (first | ((first | refine hK' _ _ ?_ | refine ⟨?_, hK' _ _ ?_⟩ | refine ⟨?_, ?_, hK' _ _ ?_⟩ | refine ⟨?_, ?_, ?_, hK' _ _ ?_⟩) <;> clear hK' K' <;> (first | (show alist _ _ _ _ _ _; skip) | (intro s hs; cases hs; done) | assumption | (simp; done) | omega | (simp; omega) | skip)) | ((show AC _ _ (D.fn 34 _) _ _); refine acall_p (f := 34) (e := rfl) (hr := rfl) (k := hK' _ _ ?_) (hc := Try.call34) (h := hag); clear hK' K'))) | refine al_e rfl rfl ?_ | refine al_u rfl rfl ?_ | ((fail_if_success (refine al_t rfl rfl fun K' hK' => ?_)); refine al_s _ rfl rfl rfl (fun hb => ?_) (fun hb => ?_)))); all_goals (refine al_nil ?_; (simp only [go_sem, simprocAttr, List.length_map, bne_self_eq_false]); refine hK _ ?_; clear hK K))
      (refine awp_frz [2, 5, 8, 9] [0] (by decide) (by simp) ?_; simp only [go_sem, simprocAttr, List.length_map, bne_self_eq_false])
      (refine awp_reg_seq [5, 8, 9, 10, 11, 12, 13] fun K hK => ?_; (repeat' (first | ((first | refine al_r rfl fun K' hK' => ?_ | refine al_d rfl fun K' hK' => ?_ | refine al_t rfl rfl fun K' hK' => ?_); (repeat (first | (simp only [go_sem, simprocAttr, List.length_map, bne_self_eq_false]) | refine AS.mk ?_ | refine AAp.grow ?_)); (first | ((first | refine hK' _ _ ?_ | refine ⟨?_, hK' _ _ ?_⟩ | refine ⟨?_, ?_, hK' _ _ ?_⟩ | refine ⟨?_, ?_, ?_, hK' _ _ ?_⟩) <;> clear hK' K' <;> (first | (show alist _ _ _ _ _ _; skip) | (intro s hs; cases hs; done) | assumption | (simp; done) | omega | (simp; omega) | skip)) | ((show AC _ _ (D.fn 35 _) _ _); refine acall_m (f := 35) [0] Try.call35 hta rfl rfl (by decide) (by simp) ?_; rintro r obs' ⟨rfl, rfl⟩; refine ⟨by simp, ?_⟩; (simp only [go_sem, simprocAttr, List.length_map, bne_self_eq_false]); refine hK' _ _ ?_; clear hK' K') | ((show AC _ _ (D.fn 35 _) _ _); refine acall_m (f := 35) [0] Try.call35 htb rfl rfl (by decide) (by simp) ?_; rintro r obs' ⟨rfl, rfl⟩; refine ⟨by simp, ?_⟩; (simp only [go_sem, simprocAttr, List.length_map, bne_self_eq_false]); refine hK' _ _ ?_; clear hK' K'))) | refine al_e rfl rfl ?_ | refine al_u rfl rfl ?_ | ((fail_if_success (refine al_t rfl rfl fun K' hK' => ?_)); refine al_s _ rfl rfl rfl (fun hb => ?_) (fun hb => ?_)))); all_goals (refine al_nil ?_; (simp only [go_sem, simprocAttr, List.length_map, bne_self_eq_false]); refine hK _ ?_; clear hK K))
      (refine awp_frz [5, 8, 9, 10, 11, 12, 13] [0] (by decide) (by simp) ?_; simp only [go_sem, simprocAttr, List.length_map, bne_self_eq_false])
      (refine awp_reg_seq [9, 10, 11, 12, 13, 14, 15, 16, 17] fun K hK => ?_; (repeat' (first | ((first | refine al_r rfl fun K' hK' => ?_ | refine al_d rfl fun K' hK' => ?_ | refine al_t rfl rfl fun K' hK' => ?_); (repeat (first | (simp only [go_sem, simprocAttr, List.length_map, bne_self_eq_false]) | refine AS.mk ?_ | refine AAp.grow ?_)); (first | ((first | refine hK' _ _ ?_ | refine ⟨?_, hK' _ _ ?_⟩ | refine ⟨?_, ?_, hK' _ _ ?_⟩ | refine ⟨?_, ?_, ?_, hK' _ _ ?_⟩) <;> clear hK' K' <;> (first | (show alist _ _ _ _ _ _; skip) | (intro s hs; cases hs; done) | assumption | (simp; done) | omega | (simp; omega) | skip)) | ((show AC _ _ (D.fn 35 _) _ _); refine acall_m (f := 35) [0] Try.call35 hta rfl rfl (by decide) (by simp) ?_; rintro r obs' ⟨rfl, rfl⟩; refine ⟨by simp, ?_⟩; (simp only [go_sem, simprocAttr, List.length_map, bne_self_eq_false]); refine hK' _ _ ?_; clear hK' K') | ((show AC _ _ (D.fn 35 _) _ _); refine acall_m (f := 35) [0] Try.call35 htb rfl rfl (by decide) (by simp) ?_; rintro r obs' ⟨rfl, rfl⟩; refine ⟨by simp, ?_⟩; (simp only [go_sem, simprocAttr, List.length_map, bne_self_eq_false]); refine hK' _ _ ?_; clear hK' K'))) | refine al_e rfl rfl ?_ | refine al_u rfl rfl ?_ | ((fail_if_success (refine al_t rfl rfl fun K' hK' => ?_)); refine al_s _ rfl rfl rfl (fun hb => ?_) (fun hb => ?_)))); all_goals (refine al_nil ?_; (simp only [go_sem, simprocAttr, List.length_map, bne_self_eq_false]); refine hK _ ?_; clear hK K))
      (refine awp_frz [9, 10, 11, 12, 13, 14, 15, 16, 17] [] (by decide) (by simp) ?_; simp only [go_sem, simprocAttr, List.length_map, bne_self_eq_false])

      refine awp_reg_tov [4] [(4, bD true)] (h := ?_) (k := ?_)
      · all_goals ((repeat' (first | ((first | refine al_r rfl fun K' hK' => ?_ | refine al_d rfl fun K' hK' => ?_ | refine al_t rfl rfl fun K' hK' => ?_); (repeat (first | (simp only [go_sem, simprocAttr, List.length_map, beq_self_eq_true]) | refine AS.mk ?_ | refine AAp.grow ?_)); (first | ((first | refine hK' _ _ ?_ | refine ⟨?_, hK' _ _ ?_⟩ | refine ⟨?_, ?_, hK' _ _ ?_⟩ | refine ⟨?_, ?_, ?_, hK' _ _ ?_⟩) <;> clear hK' K' <;> (first | (show alist _ _ _ _ _ _; skip) | (intro s hs; cases hs; done) | assumption | (simp; done) | omega | (simp; omega) | skip)) | ((show AC _ _ (D.fn 15 _) _ _); refine acall_w [] (by decide) (by simp) (f := 15) (e := rfl) (hr := fun _ => rfl) (k := hK' _ _ ?_) (hc := Try.call15) (h := good000); clear hK' K') | ((show AC _ _ (D.fn 36 _) _ _); refine acall_p (f := 36) (e := rfl) (hr := rfl) (k := hK' _ _ ?_) (hc := Try.call36) (h := hsx); clear hK' K') | ((show AC _ _ (D.fn 37 _) _ _); refine acall_p (f := 37) (e := rfl) (hr := rfl) (k := hK' _ _ ?_) (hc := Try.call37) (h := hsb); clear hK' K'))) | refine al_e rfl rfl ?_ | refine al_u rfl rfl ?_ | ((fail_if_success (refine al_t rfl rfl fun K' hK' => ?_)); refine al_s _ rfl rfl rfl (fun hb => ?_) (fun hb => ?_)))); all_goals (refine al_nil ?_; (first | (simp only [go_sem, simprocAttr, List.length_map, beq_self_eq_true, *, Bool.and_true, Bool.and_false, Bool.true_and, Bool.false_and, Bool.or_true, Bool.true_or, Bool.or_false, Bool.false_or, Bool.not_true, Bool.not_false, Bool.false_eq_true]; done) | contradiction | (simp_all; done) | simp only [go_sem, simprocAttr, List.length_map, beq_self_eq_true, *, Bool.and_true, Bool.and_false, Bool.true_and, Bool.false_and, Bool.or_true, Bool.true_or, Bool.or_false, Bool.false_or, Bool.not_true, Bool.not_false, Bool.false_eq_true])))
      (intro K hK; (simp only [go_sem, simprocAttr, List.length_map, beq_self_eq_true]); refine hK _ ?_; clear hK K)
      all_goals (refine awp_ret ?_; (first | refine hR _ _ (.inl rfl) rfl ?_ | refine hR _ _ (.inl rfl) rfl ?_ ?_); (first | (simp only [go_sem, simprocAttr, List.length_map, beq_self_eq_true, *, Bool.and_true, Bool.and_false, Bool.true_and, Bool.false_and, Bool.or_true, Bool.true_or, Bool.or_false, Bool.false_or, Bool.not_true, Bool.not_false, Bool.false_eq_true]; done) | contradiction | (simp_all; done) | simp only [go_sem, simprocAttr, List.length_map, beq_self_eq_true, *, Bool.and_true, Bool.and_false, Bool.true_and, Bool.false_and, Bool.or_true, Bool.true_or, Bool.or_false, Bool.false_or, Bool.not_true, Bool.not_false, Bool.false_eq_true]))

theorem checkS_nat {ls : List Letter} {pos : Int} (h : checkS ls pos = 0) : ∃ p : Nat, pos = p := by
  refine ⟨pos.toNat, ?_⟩
  unfold checkS at h
  split at h
  · cases h
  · split at h
    · cases h
    · rename_i h2
      simp at h2
      omega

theorem pickAgain (ls : List Letter) (takes : List Int) (pos : Int) (hlen : ls.length ≤ maxLen) (hs : ∀ y, y ∈ ls → Shaped y) (htl : takes.length ≤ maxLen) : ACallP Try.prog 9 [boxD ls pos, ints takes] (bD true) := by
  obtain ⟨F, hF⟩ := flat_ex
  have hany := anyDeep F hF ls hlen hs
  have hck := check ls pos hlen
  generalize (ls.any fun x => !F x) = A at hany
  by_cases h0 : checkS ls pos = 0
  · cases A with
    | true => exact againBad ls takes pos _ true hck hany (by simp)
    | false =>
      obtain ⟨p, rfl⟩ := checkS_nat h0
      exact againGood ls takes p htl hs h0 hany
  · exact againBad ls takes pos _ A hck hany (by simp [h0])

theorem closed2 : closedT Try.prog [3, 9, 32, 34, 41, 43, 45, 64] = true := by kernel_rfl
theorem c3b : Try.prog.cellsOf 3 = 1 := by kernel_rfl

theorem int_rows {f : Nat} : ∀ (rows : List (List PV)), (∀ r, r ∈ rows → r.length = Try.prog.cellsOf 3 ∧ shapeOk Try.prog f 3 r) → ∃ ls : List Int, rows = ls.map irow
  | [], _ => ⟨[], rfl⟩
  | r :: rows, h => by
    obtain ⟨n, rfl, _⟩ := shape_int Try.underlying3 (h r List.mem_cons_self).2
    obtain ⟨ls, rfl⟩ := int_rows rows fun r hr => h r (List.mem_cons_of_mem _ hr)
    exact ⟨n :: ls, rfl⟩

theorem sh64 {f : Nat} {xs : List PV} (h : shapeOk Try.prog f 64 xs) : ∃ ls : List Int, xs = [.sl (ls.map irow)] ∧ ls.length ≤ maxLen := by
  obtain ⟨n, rows, _, e0, hmax, _, hr⟩ := shape_slice Try.underlying64 h
  obtain ⟨ls, rfl⟩ := int_rows rows hr
  exact ⟨ls, e0, by simpa using hmax⟩
end Go.Proofs.Ytofbhmcmejhepaa.P
