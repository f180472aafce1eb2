/- Texts of this proof, joined: H4, H5, H6, H7, H8, H9, H10, H11, H12, H13, H15, Y1, Y7, Y8, AbL, Y10, R1, AbP, R2, R3, R4, R5. -/
import Derived.Test.YtagphggcdmjlpaaKCarryAlike2
import Derived.Laws.BitsLemmas
set_option linter.unusedSimpArgs false
set_option linter.unusedVariables false
set_option maxHeartbeats 1000000
/- The object at a place of a heap: the walk. -/
namespace Go.Proofs.Ytagphggcdmjlpaa.P
open Go.Ab Go.Proofs.Ytagphggcdmjlpaa.T

abbrev brow (b : Int) : List PV := [.lit (.int .u8 b)]

theorem cut_len (h : List Int) {a n : Nat} (ha : a + n ≤ h.length) : ((h.drop a).take n).length = n := by rw [List.length_take, List.length_drop]; omega

theorem put_len (h : List Int) (o : Obj) (hl : h.length ≤ 4000) : (putS h o).1.length ≤ h.length + 4001 := by
  unfold putS
  split
  · simp
  · split
    · simp
    · rename_i h1 h2
      simp only [List.length_append, enc_len]
      simp at h2
      omega


theorem at_ (h : List Int) (a : Int) (hlen : h.length ≤ maxLen) (hok : ∀ w, w ∈ h → WordOk w) : ACallP Try.prog 19 [words h, iD a] (.tup [objD (atS h a).1, iD (atS h a).2]) := by
  obtain ⟨R0, hR0⟩ : ∃ R0, R0 = atS h a := ⟨_, rfl⟩
  have hv : R0 = if decide (a < 0) || decide (a ≥ h.length) then (z0, 4) else
    match h[a.toNat]? with
    | none => (z0, 0)
    | some w => if (w.fdiv (2 ^ min 32 64) != 0) || decide ((roomN (kN w) (tN w).toNat (pN w).toNat : Int) > h.length - a) then (z0, 3) else atR h a.toNat (kN w) (tN w).toNat (pN w).toNat := hR0
  rw [← hR0]
  clear hR0
  refine acallp_fnv [.cell 4 30, .tmp 5] Try.func19 rfl rfl Try.ntmps19 (by simp) fun R hR => ?_
  (refine awp_reg_seq [0, 1, 4] fun K hK => ?_; (repeat' ((refine al_r rfl fun K' hK' => ?_); (repeat (simp only [go_sem, simprocAttr, List.length_map])); ((refine hK' _ _ ?_) <;> clear hK' K'))); all_goals (refine al_nil ?_; (simp only [go_sem, simprocAttr, List.length_map]); refine hK _ ?_; clear hK K))
  refine awp_seq_k fun K hK => ?_
  (refine awp_reg_tov [0, 1, 4, 23] [(23, bD (decide (a < 0) || decide (a ≥ (h.length : Int))))] (h := ?_) (k := ?_); · ((repeat' (first | ((first | refine al_r rfl fun K' hK' => ?_ | refine al_t rfl rfl fun K' hK' => ?_); (repeat (simp only [go_sem, simprocAttr, List.length_map])); ((first | refine hK' _ _ ?_ | refine ⟨?_, hK' _ _ ?_⟩) <;> clear hK' K' <;> (first | (show alist _ _ _ _ _ _; skip) | (intro s hs; cases hs; done)))) | refine al_e rfl rfl ?_ | ((fail_if_success (refine al_t rfl rfl fun K' hK' => ?_)); refine al_s _ rfl rfl rfl (fun hb => ?_) (fun hb => ?_)))); all_goals (refine al_nil ?_; simp only [go_sem, simprocAttr, List.length_map, *, Bool.and_true, Bool.and_false, Bool.true_and, Bool.false_and, Bool.or_true, Bool.true_or, Bool.or_false, Bool.false_or, Bool.not_true, Bool.not_false, Bool.false_eq_true]))); intro K hK; (simp only [go_sem, simprocAttr, List.length_map]); refine hK _ ?_; clear hK K
  refine awp_if (_) rfl (fun hc => ?_) (fun hc => ?_)
  · (refine awp_reg_seq [4, 5] fun K hK => ?_; (repeat' ((first | refine al_r rfl fun K' hK' => ?_ | refine al_d rfl fun K' hK' => ?_); (repeat (first | (simp only [go_sem, simprocAttr, List.length_map]) | refine AS.mk ?_)); ((first | refine hK' _ _ ?_ | refine ⟨?_, hK' _ _ ?_⟩) <;> clear hK' K' <;> (first | (show alist _ _ _ _ _ _; skip) | (simp; done))))); all_goals (refine al_nil ?_; (simp only [go_sem, simprocAttr, List.length_map]); refine hK _ ?_; clear hK K))
    refine awp_ret ?_; refine hR _ _ (.inl rfl) rfl ?_
    rw [if_pos hc] at hv
    rw [hv]
    simp only [go_sem, simprocAttr, List.length_map, List.map_nil]
    rfl
  · rw [if_neg (by rw [hc]; simp)] at hv
    have hc0 := hc
    simp only [Bool.or_eq_false_iff, decide_eq_false_iff_not] at hc0
    obtain ⟨n, rfl⟩ := Int.eq_ofNat_of_zero_le (show 0 ≤ a by omega)
    have hnl : n < h.length := by omega
    obtain ⟨w, hw⟩ := get_of_lt hnl
    rw [Int.toNat_natCast, hw] at hv
    simp only at hv
    have hn0 : (0 : Int) ≤ (n : Int) := Int.natCast_nonneg n
    have hwok := hok w (List.mem_of_getElem? hw)
    obtain ⟨t, ht, ht4⟩ := tN_ok hwok
    obtain ⟨p, hp, hp4⟩ := pN_ok hwok
    have hkN : IntKind.i64.wrap (bits .and .u64 w 255) = kN w := rfl
    have htN : IntKind.i64.wrap (bits .and .u64 (w.fdiv (2 ^ min 8 64)) 4095) = (t : Int) := ht
    have hpN : IntKind.i64.wrap (bits .and .u64 (w.fdiv (2 ^ min 20 64)) 4095) = (p : Int) := hp
    rw [ht, hp, Int.toNat_natCast, Int.toNat_natCast] at hv
    generalize kN w = k at *
    have hro := room k t p (by omega) (by omega)
    have hwr : IntKind.i64.wrap ((h.length : Int) - (n : Int)) = (h.length : Int) - (n : Int) := by
      simp [maxLen] at hlen
      rw [Go.Ab.wrap_small (by omega) (by omega)]

    refine awp_skip ?_
    refine hK _ ?_; clear hK K
    (refine awp_reg_seq [0, 1, 4, 6] fun K hK => ?_; (repeat' ((refine al_r rfl fun K' hK' => ?_); (repeat (simp only [go_sem, simprocAttr, List.length_map, hw, hnl, hn0, hkN, htN, hpN, hwr, Int.toNat_natCast, List.getElem?_map, Option.map_some])); ((refine hK' _ _ ?_) <;> clear hK' K'))); all_goals (refine al_nil ?_; (simp only [go_sem, simprocAttr, List.length_map, hw, hnl, hn0, hkN, htN, hpN, hwr, Int.toNat_natCast, List.getElem?_map, Option.map_some]); refine hK _ ?_; clear hK K))
    (refine awp_reg_seq [0, 1, 4, 6, 7, 8, 9] fun K hK => ?_; (repeat' ((refine al_r rfl fun K' hK' => ?_); (repeat (simp only [go_sem, simprocAttr, List.length_map, hw, hnl, hn0, hkN, htN, hpN, hwr, Int.toNat_natCast, List.getElem?_map, Option.map_some])); ((refine hK' _ _ ?_) <;> clear hK' K'))); all_goals (refine al_nil ?_; (simp only [go_sem, simprocAttr, List.length_map, hw, hnl, hn0, hkN, htN, hpN, hwr, Int.toNat_natCast, List.getElem?_map, Option.map_some]); refine hK _ ?_; clear hK K))
    refine awp_seq_k fun K hK => ?_
    (refine awp_reg_tov [0, 1, 4, 7, 8, 9, 53] [(53, bD ((w.fdiv (2 ^ min 32 64) != 0) || decide ((roomN k t p : Int) > (h.length : Int) - (n : Int))))] (h := ?_) (k := ?_); · ((repeat' (first | ((first | refine al_r rfl fun K' hK' => ?_ | refine al_t rfl rfl fun K' hK' => ?_); (repeat (simp only [go_sem, simprocAttr, List.length_map, hw, hnl, hn0, hkN, htN, hpN, hwr, Int.toNat_natCast, List.getElem?_map, Option.map_some])); (first | ((first | refine hK' _ _ ?_ | refine ⟨?_, hK' _ _ ?_⟩) <;> clear hK' K' <;> (first | (show alist _ _ _ _ _ _; skip) | (intro s hs; cases hs; done))) | ((show AC _ _ (D.fn 51 _) _ _); refine acall_p (f := 51) (e := rfl) (hr := rfl) (k := hK' _ _ ?_) (hc := Try.call51) (h := hro); clear hK' K'))) | refine al_e rfl rfl ?_ | ((fail_if_success (refine al_t rfl rfl fun K' hK' => ?_)); refine al_s _ rfl rfl rfl (fun hb => ?_) (fun hb => ?_)))); all_goals (refine al_nil ?_; simp only [go_sem, simprocAttr, List.length_map, hw, hnl, hn0, hkN, htN, hpN, hwr, Int.toNat_natCast, List.getElem?_map, Option.map_some, *, Bool.and_true, Bool.and_false, Bool.true_and, Bool.false_and, Bool.or_true, Bool.true_or, Bool.or_false, Bool.false_or, Bool.not_true, Bool.not_false, Bool.false_eq_true]))); intro K hK; (simp only [go_sem, simprocAttr, List.length_map, hw, hnl, hn0, hkN, htN, hpN, hwr, Int.toNat_natCast, List.getElem?_map, Option.map_some]); refine hK _ ?_; clear hK K
    refine awp_if (_) rfl (fun hc => ?_) (fun hc => ?_)
    · (refine awp_reg_seq [4, 5] fun K hK => ?_; (repeat' ((first | refine al_r rfl fun K' hK' => ?_ | refine al_d rfl fun K' hK' => ?_); (repeat (first | (simp only [go_sem, simprocAttr, List.length_map, hw, hnl, hn0, hkN, htN, hpN, hwr, Int.toNat_natCast, List.getElem?_map, Option.map_some]) | refine AS.mk ?_)); ((first | refine hK' _ _ ?_ | refine ⟨?_, hK' _ _ ?_⟩) <;> clear hK' K' <;> (first | (show alist _ _ _ _ _ _; skip) | (simp; done))))); all_goals (refine al_nil ?_; (simp only [go_sem, simprocAttr, List.length_map, hw, hnl, hn0, hkN, htN, hpN, hwr, Int.toNat_natCast, List.getElem?_map, Option.map_some]); refine hK _ ?_; clear hK K))
      refine awp_ret ?_; refine hR _ _ (.inl rfl) rfl ?_
      rw [if_pos hc] at hv
      rw [hv]
      simp only [go_sem, simprocAttr, List.length_map, hw, hnl, hn0, hkN, htN, hpN, hwr, Int.toNat_natCast, List.getElem?_map, Option.map_some, List.map_nil]
      rfl
    · rw [if_neg (by rw [hc]; simp)] at hv
      have hroom : n + roomN k t p ≤ h.length := by
        simp only [Bool.or_eq_false_iff, decide_eq_false_iff_not] at hc
        omega
      clear hro
      have hn1 : IntKind.i64.wrap ((n : Int) + 1) = ((n + 1 : Nat) : Int) := by
        simp [maxLen] at hlen
        rw [Go.Ab.wrap_small (by omega) (by omega)]; rfl

      refine awp_skip ?_
      refine hK _ ?_; clear hK K
      (refine awp_reg_seq [0, 1, 4, 7, 8, 9, 10] fun K hK => ?_; (repeat' ((first | refine al_r rfl fun K' hK' => ?_ | refine al_d rfl fun K' hK' => ?_); (repeat (first | (simp only [go_sem, simprocAttr, List.length_map, hn1]) | refine AS.mk ?_)); ((first | refine hK' _ _ ?_ | refine ⟨?_, hK' _ _ ?_⟩) <;> clear hK' K' <;> (first | (show alist _ _ _ _ _ _; skip) | (simp; done))))); all_goals (refine al_nil ?_; (simp only [go_sem, simprocAttr, List.length_map, hn1]); refine hK _ ?_; clear hK K))
      (refine awp_reg_seq [0, 1, 4, 7, 8, 9, 10] fun K hK => ?_; (repeat' ((refine al_r rfl fun K' hK' => ?_); (repeat (simp only [go_sem, simprocAttr, List.length_map, hn1])); ((refine hK' _ _ ?_) <;> clear hK' K'))); all_goals (refine al_nil ?_; (simp only [go_sem, simprocAttr, List.length_map, hn1]); refine hK _ ?_; clear hK K))
      refine awp_seq_kc fun K hK hcut => ?_
      have key : ∀ (a1 : Nat) (num : Int), n < a1 → a1 + (t + 7) / 8 + p ≤ h.length → R0 = atO h n (objO h n k num t p a1) (a1 + (t + 7) / 8 + p - n) → K ⟨ofL [(0, words h), (1, iD a1), (4, .ptr 0 0 0), (8, iD t), (9, iD p), (10, .ptr 1 0 0)], [.box [iD 0, iD 0, iD 0, .p (.lit (.string ByteArray.empty)), .nil], .box [iD n, iD k, iD num, .p (.lit (.string ByteArray.empty)), .nil]], 0⟩ := by
        clear hcut
        intro a1 num ha1 hfit hR1
        clear hv
        simp [maxLen] at hlen
        refine hK _ ?_; clear hK K
        (refine awp_reg_seq [0, 1, 4, 8, 9, 10, 11] fun K hK => ?_; (repeat' ((refine al_r rfl fun K' hK' => ?_); (repeat (simp only [go_sem, simprocAttr, List.length_map, hn1])); ((refine hK' _ _ ?_) <;> clear hK' K'))); all_goals (refine al_nil ?_; (simp only [go_sem, simprocAttr, List.length_map, hn1]); refine hK _ ?_; clear hK K))
        refine awp_born 11 1 rfl ?_
        refine awp_seq_k fun K hK => ?_
        (refine awp_reg_seq [0, 1, 4, 8, 9, 10, 11, 74, 75] fun K hK => ?_; (repeat' ((refine al_r rfl fun K' hK' => ?_); (repeat (simp only [go_sem, simprocAttr, List.length_map, hn1])); ((refine hK' _ _ ?_) <;> clear hK' K'))); all_goals (refine al_nil ?_; (simp only [go_sem, simprocAttr, List.length_map, hn1]); refine hK _ ?_; clear hK K))
        refine awp_block ?_
        -- loop 0 head [0, 1, 4, 8, 9, 10, 11, 74, 75]
        refine awp_loop_cut (fun m s => ∃ i : Nat, i ≤ t ∧ m = t - i ∧ s = ⟨ofL [(0, words h), (1, iD a1), (4, .ptr 0 0 0), (8, iD t), (9, iD p), (10, .ptr 1 0 0), (11, .ref 2 0 i), (74, iD t), (75, iD i)], [.box [iD 0, iD 0, iD 0, .p (.lit (.string ByteArray.empty)), .nil], .box [iD n, iD k, iD num, .p (.lit (.string ByteArray.empty)), .nil], .row 1 ((bytesN h a1 i).map brow)], 0⟩) ⟨_, 0, Nat.zero_le _, rfl, rfl⟩ ?_
        rintro m s ⟨i, hi, hmi, rfl⟩
        (refine awp_reg_seq [0, 1, 4, 8, 9, 10, 11, 74, 75, 76] fun K hK => ?_; (repeat' ((refine al_r rfl fun K' hK' => ?_); (repeat (simp only [go_sem, simprocAttr, List.length_map, hn1])); ((refine hK' _ _ ?_) <;> clear hK' K'))); all_goals (refine al_nil ?_; (simp only [go_sem, simprocAttr, List.length_map, hn1]); refine hK _ ?_; clear hK K))
        refine awp_seq_k fun K hK => ?_
        refine awp_if (decide ((i : Int) < (t : Int))) rfl (fun hc => ?_) (fun hc => ?_)
        · refine awp_skip ?_
          refine hK _ ?_; clear hK K
          refine awp_seq_k fun K hK => ?_
          refine awp_block ?_
          have hi2 : i < t := by simpa using hc
          obtain ⟨u, hget⟩ := get_of_lt (l := h) (i := a1 + i / 8) (by omega)
          have hgl := lt_of_get hget
          have hg0 : (0 : Int) ≤ ((a1 + i / 8 : Nat) : Int) := Int.natCast_nonneg _
          have hix : IntKind.i64.wrap ((i : Int) + 1) = ((i + 1 : Nat) : Int) := by rw [Go.Ab.wrap_small (by omega) (by omega)]; rfl
          have hq8 : IntKind.i64.wrap ((i : Int).tdiv 8) = ((i / 8 : Nat) : Int) := by
            rw [Int.tdiv_eq_ediv_of_nonneg (by omega), Go.Ab.wrap_small (by omega) (by omega)]; omega
          have hqa : IntKind.i64.wrap ((a1 : Int) + ((i / 8 : Nat) : Int)) = ((a1 + i / 8 : Nat) : Int) := by rw [Go.Ab.wrap_small (by omega) (by omega)]; rfl
          have hrm : (i : Int).tmod 8 = ((i % 8 : Nat) : Int) := by rw [Int.tmod_eq_emod_of_nonneg (by omega)]; omega
          have hm8 : IntKind.i64.wrap (8 * ((i % 8 : Nat) : Int)) = ((8 * (i % 8) : Nat) : Int) := by rw [Go.Ab.wrap_small (by omega) (by omega)]; omega
          have h80 : (0 : Int) ≤ ((8 * (i % 8) : Nat) : Int) := Int.natCast_nonneg _
          have hby : IntKind.u8.wrap (u.fdiv (2 ^ min (8 * (i % 8)) 64)) = byteN h a1 i := by unfold byteN; simp [List.getD, hget]
          have hti : List.take i ((bytesN h a1 i).map brow) = (bytesN h a1 i).map brow := List.take_of_length_le (by simp [bytesN])
          have hbl : (bytesN h a1 i).length = i := by simp [bytesN]
          have hfi : (i + 1) * 1 ≤ 140737488355328 := by omega

          (refine awp_reg_seq [0, 1, 4, 8, 9, 10, 11, 12, 74, 75] fun K hK => ?_; (repeat' ((refine al_r rfl fun K' hK' => ?_); (repeat (simp only [go_sem, simprocAttr, hget, hgl, hg0, hix, hq8, hqa, hrm, hm8, h80, hby, hti, hbl, hfi, Int.toNat_natCast, List.getElem?_map, Option.map_some, List.length_map, List.drop_zero, Nat.mul_one])); ((refine hK' _ _ ?_) <;> clear hK' K'))); all_goals (refine al_nil ?_; (simp only [go_sem, simprocAttr, hget, hgl, hg0, hix, hq8, hqa, hrm, hm8, h80, hby, hti, hbl, hfi, Int.toNat_natCast, List.getElem?_map, Option.map_some, List.length_map, List.drop_zero, Nat.mul_one]); refine hK _ ?_; clear hK K))
          (refine awp_reg_end [0, 1, 4, 8, 9, 10, 11, 74, 75] fun K hK => ?_; (repeat' ((refine al_r rfl fun K' hK' => ?_); (repeat (first | (simp only [go_sem, simprocAttr, hget, hgl, hg0, hix, hq8, hqa, hrm, hm8, h80, hby, hti, hbl, hfi, Int.toNat_natCast, List.getElem?_map, Option.map_some, List.length_map, List.drop_zero, Nat.mul_one]) | refine AAp.grow ?_)); ((first | refine hK' _ _ ?_ | refine ⟨?_, ?_, ?_, hK' _ _ ?_⟩) <;> clear hK' K' <;> (first | (show alist _ _ _ _ _ _; skip) | (simp; done) | omega)))); all_goals (refine al_nil ?_; (simp only [go_sem, simprocAttr, hget, hgl, hg0, hix, hq8, hqa, hrm, hm8, h80, hby, hti, hbl, hfi, Int.toNat_natCast, List.getElem?_map, Option.map_some, List.length_map, List.drop_zero, Nat.mul_one]); refine hK _ ?_; clear hK K))
          refine hK _ ?_; clear hK K
          (refine awp_reg_end [0, 1, 4, 8, 9, 10, 11, 74, 75] fun K hK => ?_; (repeat' ((refine al_r rfl fun K' hK' => ?_); (repeat (simp only [go_sem, simprocAttr, hget, hgl, hg0, hix, hq8, hqa, hrm, hm8, h80, hby, hti, hbl, hfi, Int.toNat_natCast, List.getElem?_map, Option.map_some, List.length_map, List.drop_zero, Nat.mul_one])); ((refine hK' _ _ ?_) <;> clear hK' K'))); all_goals (refine al_nil ?_; (simp only [go_sem, simprocAttr, hget, hgl, hg0, hix, hq8, hqa, hrm, hm8, h80, hby, hti, hbl, hfi, Int.toNat_natCast, List.getElem?_map, Option.map_some, List.length_map, List.drop_zero, Nat.mul_one]); refine hK _ ?_; clear hK K))
          refine ⟨t - (i + 1), by omega, [0, 1, 4, 8, 9, 10, 11, 74, 75], [0, 1, 4], by decide, by intro q hq; exact absurd hq (Nat.not_lt_zero q), i + 1, hi2, rfl, ?_⟩
          rw [bytesN_succ, List.map_append]
          simp only [go_sem, simprocAttr, hget, hgl, hg0, hix, hq8, hqa, hrm, hm8, h80, hby, hti, hbl, hfi, Int.toNat_natCast, List.getElem?_map, Option.map_some, List.length_map, List.drop_zero, Nat.mul_one]
        · have hit : t = i := by simp at hc; omega
          subst hit
          have htB : List.take t ((bytesN h a1 t).map brow) = (bytesN h a1 t).map brow := List.take_of_length_le (by simp [bytesN])
          have hbb : ((bytesN h a1 t).map brow).mapM oneB = some (bytesN h a1 t) := bytes_map _
          have h7a : IntKind.i64.wrap ((t : Int) + 7) = ((t + 7 : Nat) : Int) := by rw [Go.Ab.wrap_small (by omega) (by omega)]; rfl
          have h7b : IntKind.i64.wrap (((t + 7 : Nat) : Int).tdiv 8) = (((t + 7) / 8 : Nat) : Int) := by
            rw [Int.tdiv_eq_ediv_of_nonneg (by omega), Go.Ab.wrap_small (by omega) (by omega)]; omega
          have h7c : IntKind.i64.wrap ((a1 : Int) + (((t + 7) / 8 : Nat) : Int)) = ((a1 + (t + 7) / 8 : Nat) : Int) := by rw [Go.Ab.wrap_small (by omega) (by omega)]; rfl
          generalize hA2 : a1 + (t + 7) / 8 = a2 at *
          have hAp : IntKind.i64.wrap ((a2 : Int) + (p : Int)) = ((a2 + p : Nat) : Int) := by rw [Go.Ab.wrap_small (by omega) (by omega)]; rfl
          have ha0 : (0 : Int) ≤ (a2 : Int) := Int.natCast_nonneg _
          have ha01 : (0 : Int) ≤ ((a2 + p : Nat) : Int) := Int.natCast_nonneg _
          have ha3 : ((a2 + p : Nat) : Int) ≤ (h.length : Int) := by omega
          have ha4 : (a2 : Int) ≤ ((a2 + p : Nat) : Int) := by omega
          have hrw := wrow1 h
          obtain ⟨P, hP⟩ : ∃ P, P = (h.drop a2).take p := ⟨_, rfl⟩
          have hPl : P.length = p := by rw [hP]; exact cut_len h (by omega)
          have hPw := wrow1 P
          have hdt : List.drop a2 (List.take (a2 + p) (h.map wrow)) = P.map wrow := by rw [hP, List.drop_take, Nat.add_sub_cancel_left, List.map_take, List.map_drop]
          have hPt : List.take p (P.map wrow) = P.map wrow := List.take_of_length_le (by simp [hPl])
          have hPf : p * 8 ≤ 140737488355328 := by omega

          refine awp_exit ?_
          clear hK
          refine hK _ ?_; clear hK K
          (refine awp_reg_seq [0, 1, 4, 9, 10] fun K hK => ?_; (repeat' ((first | refine al_r rfl fun K' hK' => ?_ | refine al_d rfl fun K' hK' => ?_); (repeat (first | (simp only [go_sem, simprocAttr, List.length_map, htB, hbb, h7a, h7b, h7c, List.drop_zero]) | refine AS.mk ?_)); ((first | refine hK' _ _ ?_ | refine ⟨?_, hK' _ _ ?_⟩) <;> clear hK' K' <;> (first | (show alist _ _ _ _ _ _; skip) | (simp; done))))); all_goals (refine al_nil ?_; (simp only [go_sem, simprocAttr, List.length_map, htB, hbb, h7a, h7b, h7c, List.drop_zero]); refine hK _ ?_; clear hK K))
          (refine awp_frz [0, 1, 4, 9, 10] [0, 1] (by decide) (by (simp; done)) ?_; simp only [go_sem, simprocAttr, List.length_map, htB, hbb, h7a, h7b, h7c, List.drop_zero])
          refine awp_born_box 1 4 1 rfl rfl ?_
          simp only [go_sem, simprocAttr, List.length_map, htB, hbb, h7a, h7b, h7c, List.drop_zero]

          refine awp_draw_seq (by kernel_rfl) [0, 1, 4, 9, 10] fun K hK => ?_
          have key : K (⟨ofL [(0, words h), (1, iD a2), (4, .ptr 0 0 0), (9, iD p), (10, .ptr 1 0 0)], [.box [iD 0, iD 0, iD 0, .p (.lit (.string ByteArray.empty)), .nil], .box [iD n, iD k, iD num, .p (.lit (.string (pushB (bytesN h a1 t)))), .ref 3 0 p], .dead, .row 1 (P.map wrow)], 0⟩) := by
            refine hK _ ?_; clear hK K
            (refine awp_frz [0, 1, 4, 9, 10] [0] (by decide) (by (simp; done)) ?_; simp only [go_sem, simprocAttr, List.length_map, hdt, hPl, hPt, hPf, hAp, Nat.zero_add, ha0, ha01, ha3, ha4, Int.toNat_natCast, List.take_nil, List.take_zero, List.nil_append])
            obtain ⟨o, ho⟩ : ∃ o : Obj, o = ⟨n, k, num, pushB (bytesN h a1 t), P⟩ := ⟨_, rfl⟩
            have hoo : objO h n k num t p a1 = o := by unfold objO; rw [ho, hA2, hP]
            have hpu0 : ACallP Try.prog 17 [.nil, objD o] _ := ACallP.soft (put [] o (by simp)) rfl
            have hR2 : R0 = if ((putS [] o).2.2 != 0) || !(listEq eqI (putS [] o).1 ((h.drop n).take (a2 + p - n))) then (z0, 3) else (o, 0) := by rw [hR1, hoo]; rfl
            have hxl := put_len [] o (by simp)
            have heq := equalW (putS [] o).1 ((h.drop n).take (a2 + p - n)) (by simp at hxl; simp [maxLen]; omega)
            generalize putS [] o = X at hpu0 hR2 heq
            obtain ⟨x, y, e⟩ := X
            simp only at hpu0 hR2 heq
            generalize listEq eqI x ((h.drop n).take (a2 + p - n)) = le at heq hR2
            have hdn : List.drop n (List.take (a2 + p) (h.map wrow)) = ((h.drop n).take (a2 + p - n)).map wrow := by rw [List.drop_take, List.map_take, List.map_drop]
            have hnle : (n : Int) ≤ ((a2 + p : Nat) : Int) := by omega
            have hov : o.at_ = n ∧ o.kind = k ∧ o.num = num ∧ o.text = pushB (bytesN h a1 t) ∧ o.parts = P := by rw [ho]; exact ⟨rfl, rfl, rfl, rfl, rfl⟩
            obtain ⟨v1, v2, v3, v4, v5⟩ := hov
            clear ho hoo hR1
            rw [← v1, ← v2, ← v3, ← v4, ← v5]
            refine awp_seq_k fun K hK => ?_

            (refine awp_reg_seq [0, 1, 4, 9, 10, 13, 15] fun K hK => ?_; (repeat' ((refine al_r rfl fun K' hK' => ?_); (repeat (simp only [go_sem, simprocAttr, List.length_map])); (first | ((refine hK' _ _ ?_) <;> clear hK' K') | ((show AC _ _ (D.fn 17 _) _ _); refine acall_p (f := 17) (e := rfl) (hr := rfl) (k := hK' _ _ ?_) (hc := Try.call17) (h := hpu0); clear hK' K')))); all_goals (refine al_nil ?_; (simp only [go_sem, simprocAttr, List.length_map]); refine hK _ ?_; clear hK K))

            refine awp_reg_tov [4, 10, 131] [(131, bD ((e != 0) || !le))] (h := ?_) (k := ?_)
            · obtain ⟨en, hen⟩ : ∃ en, (e != 0) = en := ⟨_, rfl⟩
              cases en <;> cases le

              all_goals ((repeat' (first | ((first | refine al_r rfl fun K' hK' => ?_ | refine al_t rfl rfl fun K' hK' => ?_); (repeat (simp only [go_sem, simprocAttr, List.length_map, v1, hdn, hn0, hnle, hAp, ha01, ha3, Int.toNat_natCast, hen])); (first | ((first | refine hK' _ _ ?_ | refine ⟨?_, hK' _ _ ?_⟩) <;> clear hK' K' <;> (first | (show alist _ _ _ _ _ _; skip) | assumption)) | ((show AC _ _ (D.fn 18 _) _ _); refine acall_p (f := 18) (e := rfl) (hr := rfl) (k := hK' _ _ ?_) (hc := Try.call18) (h := heq); clear hK' K'))) | refine al_e rfl rfl ?_)); all_goals (refine al_nil ?_; (simp only [go_sem, simprocAttr, List.length_map, v1, hdn, hn0, hnle, hAp, ha01, ha3, Int.toNat_natCast, hen, *, Bool.and_true, Bool.and_false, Bool.true_and, Bool.false_and, Bool.or_true, Bool.true_or, Bool.or_false, Bool.false_or, Bool.not_true, Bool.not_false, Bool.false_eq_true]; done)))

            (intro K hK; (simp only [go_sem, simprocAttr, List.length_map, v1]); refine hK _ ?_; clear hK K)
            refine awp_if (_) rfl (fun hc => ?_) (fun hc => ?_)
            · (refine awp_reg_seq [4, 5] fun K hK => ?_; (repeat' ((first | refine al_r rfl fun K' hK' => ?_ | refine al_d rfl fun K' hK' => ?_); (repeat (first | (simp only [go_sem, simprocAttr, List.length_map, v1]) | refine AS.mk ?_)); ((first | refine hK' _ _ ?_ | refine ⟨?_, hK' _ _ ?_⟩) <;> clear hK' K' <;> (first | (show alist _ _ _ _ _ _; skip) | (simp; done))))); all_goals (refine al_nil ?_; (simp only [go_sem, simprocAttr, List.length_map, v1]); refine hK _ ?_; clear hK K))
              refine awp_ret ?_; refine hR _ _ (.inl rfl) rfl ?_
              rw [if_pos hc] at hR2
              rw [hR2]
              simp only [go_sem, simprocAttr, List.length_map, v1, List.map_nil]
              rfl
            · rw [if_neg (by rw [hc]; simp)] at hR2
              refine awp_skip ?_
              refine hK _ ?_; clear hK K
              (refine awp_reg_seq [4, 5] fun K hK => ?_; (repeat' ((first | refine al_r rfl fun K' hK' => ?_ | refine al_d rfl fun K' hK' => ?_); (repeat (first | (simp only [go_sem, simprocAttr, List.length_map, v1]) | refine AS.mk ?_)); ((first | refine hK' _ _ ?_ | refine ⟨?_, hK' _ _ ?_⟩) <;> clear hK' K' <;> (first | (show alist _ _ _ _ _ _; skip) | (simp; done))))); all_goals (refine al_nil ?_; (simp only [go_sem, simprocAttr, List.length_map, v1]); refine hK _ ?_; clear hK K))
              refine awp_ret ?_; refine hR _ _ (.inl rfl) rfl ?_
              rw [hR2]
              simp only [go_sem, simprocAttr, List.length_map, v1, objD]

          ((refine ah_r 0 rfl (by kernel_rfl) rfl fun K' hK' => ?_); (simp only [go_sem, simprocAttr, List.length_map, hdt, hPl, hPt, hPf, hAp, Nat.zero_add, ha0, ha01, ha3, ha4, Int.toNat_natCast, List.take_nil, List.take_zero, List.nil_append]); ((refine hK' _ ?_); clear hK' K'))
          ((refine ah_r 2 rfl (by kernel_rfl) rfl fun K' hK' => ?_); (simp only [go_sem, simprocAttr, List.length_map, hdt, hPl, hPt, hPf, hAp, Nat.zero_add, ha0, ha01, ha3, ha4, Int.toNat_natCast, List.take_nil, List.take_zero, List.nil_append]); ((refine hK' _ ?_); clear hK' K'))
          ((refine ah_r 3 rfl (by kernel_rfl) rfl fun K' hK' => ?_); (simp only [go_sem, simprocAttr, List.length_map, hdt, hPl, hPt, hPf, hAp, Nat.zero_add, ha0, ha01, ha3, ha4, Int.toNat_natCast, List.take_nil, List.take_zero, List.nil_append]); ((refine hK' _ ?_); clear hK' K'))
          ((refine ah_r 4 rfl (by kernel_rfl) rfl fun K' hK' => ?_); (simp only [go_sem, simprocAttr, List.length_map, hdt, hPl, hPt, hPf, hAp, Nat.zero_add, ha0, ha01, ha3, ha4, Int.toNat_natCast, List.take_nil, List.take_zero, List.nil_append]); ((refine hK' _ ?_); clear hK' K'))
          ((refine ah_r 5 rfl (by kernel_rfl) rfl fun K' hK' => ?_); (simp only [go_sem, simprocAttr, List.length_map, hdt, hPl, hPt, hPf, hAp, Nat.zero_add, ha0, ha01, ha3, ha4, Int.toNat_natCast, List.take_nil, List.take_zero, List.nil_append]); ((refine hK' _ ?_); clear hK' K'))
          ((refine ah_r 6 rfl (by kernel_rfl) rfl fun K' hK' => ?_); (simp only [go_sem, simprocAttr, List.length_map, hdt, hPl, hPt, hPf, hAp, Nat.zero_add, ha0, ha01, ha3, ha4, Int.toNat_natCast, List.take_nil, List.take_zero, List.nil_append]); ((refine hK' _ ?_); clear hK' K'))
          refine ah_two 1 7 rfl rfl (by kernel_rfl) ?_ ?_
          · ((repeat' ((refine al_r rfl fun K' hK' => ?_); (repeat (simp only [go_sem, simprocAttr, List.length_map, hdt, hPl, hPt, hPf, hAp, Nat.zero_add, ha0, ha01, ha3, ha4, Int.toNat_natCast, List.take_nil, List.take_zero, List.nil_append])); ((refine hK' _ _ ?_) <;> clear hK' K'))); all_goals refine al_nil ?_)
            (refine ah_one 7 rfl (by kernel_rfl) ?_; (repeat' ((refine al_r rfl fun K' hK' => ?_); (repeat (simp only [go_sem, simprocAttr, List.length_map, hdt, hPl, hPt, hPf, hAp, Nat.zero_add, ha0, ha01, ha3, ha4, Int.toNat_natCast, List.take_nil, List.take_zero, List.nil_append])); ((refine ⟨?_, hK' _ _ ?_⟩) <;> clear hK' K' <;> (first | (show alist _ _ _ _ _ _; skip) | assumption)))); all_goals refine al_nil ?_)
            (refine ah_one 8 rfl (by kernel_rfl) ?_; (repeat' ((refine al_r rfl fun K' hK' => ?_); (repeat (first | (simp only [go_sem, simprocAttr, List.length_map, hdt, hPl, hPt, hPf, hAp, Nat.zero_add, ha0, ha01, ha3, ha4, Int.toNat_natCast, List.take_nil, List.take_zero, List.nil_append]) | refine AAp.grow ?_)); ((refine ⟨?_, hK' _ _ ?_⟩) <;> clear hK' K' <;> (first | (show alist _ _ _ _ _ _; skip) | assumption)))); all_goals refine al_nil ?_)
            ((refine ah_r 9 rfl (by kernel_rfl) rfl fun K' hK' => ?_); (simp only [go_sem, simprocAttr, List.length_map, hdt, hPl, hPt, hPf, hAp, Nat.zero_add, ha0, ha01, ha3, ha4, Int.toNat_natCast, List.take_nil, List.take_zero, List.nil_append]); ((refine hK' _ ?_); clear hK' K'))
            (refine ah_one 10 rfl (by kernel_rfl) ?_; (repeat' ((refine al_d rfl fun K' hK' => ?_); (repeat (first | (simp only [go_sem, simprocAttr, List.length_map, hdt, hPl, hPt, hPf, hAp, Nat.zero_add, ha0, ha01, ha3, ha4, Int.toNat_natCast, List.take_nil, List.take_zero, List.nil_append]) | refine AS.mk ?_)); ((refine ⟨?_, hK' _ _ ?_⟩) <;> clear hK' K' <;> (first | (show alist _ _ _ _ _ _; skip) | (simp; done))))); all_goals refine al_nil ?_)
            (refine ah_done (by kernel_rfl) ?_; (simp only [go_sem, simprocAttr, List.length_map, hdt, hPl, hPt, hPf, hAp, Nat.zero_add, ha0, ha01, ha3, ha4, Int.toNat_natCast, List.take_nil, List.take_zero, List.nil_append]); exact key)
          · ((repeat' ((refine al_r rfl fun K' hK' => ?_); (repeat (simp only [go_sem, simprocAttr, List.length_map, hdt, hPl, hPt, hPf, hAp, Nat.zero_add, ha0, ha01, ha3, ha4, Int.toNat_natCast, List.take_nil, List.take_zero, List.nil_append])); ((refine ⟨?_, hK' _ _ ?_⟩) <;> clear hK' K' <;> (first | (show alist _ _ _ _ _ _; skip) | assumption)))); all_goals refine al_nil ?_)
            (refine ah_one 1 rfl (by kernel_rfl) ?_; (repeat' ((refine al_r rfl fun K' hK' => ?_); (repeat (simp only [go_sem, simprocAttr, List.length_map, hdt, hPl, hPt, hPf, hAp, Nat.zero_add, ha0, ha01, ha3, ha4, Int.toNat_natCast, List.take_nil, List.take_zero, List.nil_append])); ((refine hK' _ _ ?_) <;> clear hK' K'))); all_goals refine al_nil ?_)
            (refine ah_one 8 rfl (by kernel_rfl) ?_; (repeat' ((refine al_r rfl fun K' hK' => ?_); (repeat (first | (simp only [go_sem, simprocAttr, List.length_map, hdt, hPl, hPt, hPf, hAp, Nat.zero_add, ha0, ha01, ha3, ha4, Int.toNat_natCast, List.take_nil, List.take_zero, List.nil_append]) | refine AAp.grow ?_)); ((refine ⟨?_, hK' _ _ ?_⟩) <;> clear hK' K' <;> (first | (show alist _ _ _ _ _ _; skip) | assumption)))); all_goals refine al_nil ?_)
            ((refine ah_r 9 rfl (by kernel_rfl) rfl fun K' hK' => ?_); (simp only [go_sem, simprocAttr, List.length_map, hdt, hPl, hPt, hPf, hAp, Nat.zero_add, ha0, ha01, ha3, ha4, Int.toNat_natCast, List.take_nil, List.take_zero, List.nil_append]); ((refine hK' _ ?_); clear hK' K'))
            (refine ah_one 10 rfl (by kernel_rfl) ?_; (repeat' ((refine al_d rfl fun K' hK' => ?_); (repeat (first | (simp only [go_sem, simprocAttr, List.length_map, hdt, hPl, hPt, hPf, hAp, Nat.zero_add, ha0, ha01, ha3, ha4, Int.toNat_natCast, List.take_nil, List.take_zero, List.nil_append]) | refine AS.mk ?_)); ((refine ⟨?_, hK' _ _ ?_⟩) <;> clear hK' K' <;> (first | (show alist _ _ _ _ _ _; skip) | (simp; done))))); all_goals refine al_nil ?_)
            (refine ah_done (by kernel_rfl) ?_; (simp only [go_sem, simprocAttr, List.length_map, hdt, hPl, hPt, hPf, hAp, Nat.zero_add, ha0, ha01, ha3, ha4, Int.toNat_natCast, List.take_nil, List.take_zero, List.nil_append]); exact key)

      (refine awp_reg_tov [0, 1, 4, 8, 9, 10, 65] [(65, bD (k == 1 || k == 4))] (h := ?_) (k := ?_); · ((repeat' (first | ((first | refine al_r rfl fun K' hK' => ?_ | refine al_t rfl rfl fun K' hK' => ?_); (repeat (simp only [go_sem, simprocAttr, List.length_map, hn1])); ((refine hK' _ _ ?_) <;> clear hK' K')) | refine al_e rfl rfl ?_ | ((fail_if_success (refine al_t rfl rfl fun K' hK' => ?_)); refine al_s _ rfl rfl rfl (fun hb => ?_) (fun hb => ?_)))); all_goals (refine al_nil ?_; simp only [go_sem, simprocAttr, List.length_map, hn1, *, Bool.and_true, Bool.and_false, Bool.true_and, Bool.false_and, Bool.or_true, Bool.true_or, Bool.or_false, Bool.false_or, Bool.not_true, Bool.not_false, Bool.false_eq_true]))); intro K hK; (simp only [go_sem, simprocAttr, List.length_map, hn1]); refine hK _ ?_; clear hK K
      refine awp_if (numK k) rfl (fun hc => ?_) (fun hc => ?_)
      · have hrm : roomN k t p = 1 + (t + 7) / 8 + p + 1 := by unfold roomN; rw [if_pos hc]
        obtain ⟨v, hv1⟩ := get_of_lt (l := h) (i := n + 1) (by omega)
        have hvl := lt_of_get hv1
        have hRa : R0 = atO h n (objO h n k (IntKind.i64.wrap v) t p (n + 2)) (n + 2 + (t + 7) / 8 + p - n) := by
          rw [hv]; unfold atR; rw [if_pos hc, show h.getD (n + 1) 0 = v by simp [List.getD, hv1]]
        have hn2 : IntKind.i64.wrap (((n + 1 : Nat) : Int) + 1) = ((n + 2 : Nat) : Int) := by
          simp [maxLen] at hlen
          rw [Go.Ab.wrap_small (by omega) (by omega)]; rfl
        have hn10 : (0 : Int) ≤ ((n + 1 : Nat) : Int) := Int.natCast_nonneg _

        (refine awp_reg_seq [0, 1, 4, 8, 9, 10] fun K hK => ?_; (repeat' ((first | refine al_r rfl fun K' hK' => ?_ | refine al_d rfl fun K' hK' => ?_); (repeat (first | (simp only [go_sem, simprocAttr, List.length_map, hv1, hvl, hn2, hn10, Int.toNat_natCast, List.getElem?_map, Option.map_some]) | refine AS.mk ?_)); ((first | refine hK' _ _ ?_ | refine ⟨?_, hK' _ _ ?_⟩) <;> clear hK' K' <;> (first | (show alist _ _ _ _ _ _; skip) | (simp; done))))); all_goals (refine al_nil ?_; (simp only [go_sem, simprocAttr, List.length_map, hv1, hvl, hn2, hn10, Int.toNat_natCast, List.getElem?_map, Option.map_some]); refine hK _ ?_; clear hK K))
        (refine awp_reg_end [0, 1, 4, 8, 9, 10] fun K hK => ?_; (repeat' ((refine al_r rfl fun K' hK' => ?_); (repeat (simp only [go_sem, simprocAttr, List.length_map, hv1, hvl, hn2, hn10, Int.toNat_natCast, List.getElem?_map, Option.map_some])); ((refine hK' _ _ ?_) <;> clear hK' K'))); all_goals (refine al_nil ?_; (simp only [go_sem, simprocAttr, List.length_map, hv1, hvl, hn2, hn10, Int.toNat_natCast, List.getElem?_map, Option.map_some]); refine hK _ ?_; clear hK K))
        (refine hcut _ [0, 1, 4, 8, 9, 10] [0, 1] (by decide) (by intro q hq; exact absurd hq (Nat.not_lt_zero q)) ?_; simp only [go_sem, simprocAttr, List.length_map, hv1, hvl, hn2, hn10, Int.toNat_natCast, List.getElem?_map, Option.map_some]; (exact key (n + 2) _ (by omega) (by omega) hRa))
      · have hrm : roomN k t p = 1 + (t + 7) / 8 + p := by unfold roomN; rw [if_neg (by rw [hc]; simp)]; rfl
        have hRb : R0 = atO h n (objO h n k 0 t p (n + 1)) (n + 1 + (t + 7) / 8 + p - n) := by
          rw [hv]; unfold atR; rw [if_neg (by rw [hc]; simp)]

        refine awp_skip ?_
        (refine hcut _ [0, 1, 4, 8, 9, 10] [0, 1] (by decide) (by intro q hq; exact absurd hq (Nat.not_lt_zero q)) ?_; simp only [go_sem, simprocAttr, List.length_map]; (exact key (n + 1) 0 (by omega) (by omega) hRb))
end Go.Proofs.Ytagphggcdmjlpaa.P

/- The objects of a heap, in order: a contract. -/
namespace Go.Proofs.Ytagphggcdmjlpaa.P
open Go.Ab Go.Proofs.Ytagphggcdmjlpaa.T

abbrev objs (l : List Obj) : D := .p (.sl (l.map Obj.row))

theorem at_ok {h : List Int} {a : Int} (he : (atS h a).2 = 0) (hlen : h.length ≤ maxLen) (hok : ∀ w, w ∈ h → WordOk w) : ∃ n : Nat, a = n ∧ n < h.length ∧ (atS h a).1.at_ = n ∧ rightS (atS h a).1 = true ∧ (encW (atS h a).1).length ≤ 4000 ∧
    n + (encW (atS h a).1).length ≤ h.length ∧ encW (atS h a).1 = (h.drop n).take (encW (atS h a).1).length := by
  have key : ∀ (n m : Nat) (o : Obj), n < h.length → o.at_ = n → (atO h n o m).2 = 0 → (atO h n o m).1.at_ = n ∧ rightS (atO h n o m).1 = true ∧ (encW (atO h n o m).1).length ≤ 4000 ∧
      n + (encW (atO h n o m).1).length ≤ h.length ∧ encW (atO h n o m).1 = (h.drop n).take (encW (atO h n o m).1).length := by
    intro n m o hn hoa h1
    unfold atO at h1 ⊢
    by_cases hc : (((putS [] o).2.2 != 0) || !(listEq eqI (putS [] o).1 ((h.drop n).take m))) = true
    · rw [if_pos hc] at h1; cases h1
    · rw [if_neg hc]
      dsimp only
      simp only [Bool.or_eq_true, not_or, bne_iff_ne, ne_eq, Decidable.not_not, Bool.not_eq_true', Bool.not_eq_false] at hc
      obtain ⟨h2, h3⟩ := hc
      have h3 := (listEq_iff eqI_iff).1 h3
      unfold putS at h2 h3
      by_cases hr : (!rightS o) = true
      · rw [if_pos hr] at h2; cases h2
      rw [if_neg hr] at h2 h3
      split at h2
      · cases h2
      · rename_i h4
        rw [if_neg h4] at h3
        simp only [List.nil_append] at h3
        have hl := congrArg List.length h3
        rw [List.length_take, List.length_drop] at hl
        have he := enc_len o
        simp only [List.length_nil, decide_eq_true_eq] at h4
        refine ⟨hoa, by simpa using hr, by omega, by omega, ?_⟩
        rw [h3] at hl ⊢
        rw [List.length_take, List.length_drop, List.take_eq_take_iff]
        simp only [List.length_drop]
        omega
  unfold atS at he ⊢
  by_cases h1 : (decide (a < 0) || decide (a ≥ (h.length : Int))) = true
  · rw [if_pos h1] at he; cases he
  rw [if_neg h1] at he ⊢
  simp at h1
  obtain ⟨n, rfl⟩ := Int.eq_ofNat_of_zero_le h1.1
  have hnl : n < h.length := by omega
  obtain ⟨w, hw⟩ := get_of_lt hnl
  rw [Int.toNat_natCast, hw] at he ⊢
  simp only at he ⊢
  split at he
  · cases he
  · rename_i h2
    rw [if_neg h2]
    refine ⟨n, rfl, hnl, ?_⟩
    unfold atR at he ⊢
    split at he
    · rename_i h3
      rw [if_pos h3]
      exact key n _ _ hnl rfl he
    · rename_i h3
      rw [if_neg h3]
      exact key n _ _ hnl rfl he

/-- What Objects answers from a place on. -/
def objF (h : List Int) : Nat → Nat → List Obj → List Obj × Int
  | 0, _, acc => (acc, 0)
  | f + 1, a, acc => if a < h.length then (if (atS h a).2 != 0 then ([], 3) else objF h f (a + roomN (atS h a).1.kind (atS h a).1.text.size (atS h a).1.parts.length) (acc ++ [(atS h a).1])) else (acc, 0)
def objsS (h : List Int) : List Obj × Int := if decide ((h.length : Int) > 4000) then ([], 2) else objF h (h.length + 1) 0 []


theorem objects (h : List Int) (hlen : h.length ≤ maxLen) (hok : ∀ w, w ∈ h → WordOk w) : ACallP Try.prog 15 [words h] (.tup [objs (objsS h).1, iD (objsS h).2]) := by
  obtain ⟨R0, hR0⟩ : ∃ R0, R0 = objsS h := ⟨_, rfl⟩
  have hv : R0 = if decide ((h.length : Int) > 4000) then ([], 2) else objF h (h.length + 1) 0 [] := hR0
  rw [← hR0]
  clear hR0
  refine acallp_fn [2, 3] Try.func15 rfl rfl Try.ntmps15 (by simp) fun R hR => ?_
  (refine awp_reg_seq [0] fun K hK => ?_; (repeat' ((refine al_r rfl fun K' hK' => ?_); (repeat (simp only [go_sem, simprocAttr, List.length_map])); ((refine hK' _ _ ?_) <;> clear hK' K'))); all_goals (refine al_nil ?_; (simp only [go_sem, simprocAttr, List.length_map]); refine hK _ ?_; clear hK K))
  refine awp_seq_k fun K hK => ?_
  (refine awp_reg_seq [0, 10] fun K hK => ?_; (repeat' ((refine al_r rfl fun K' hK' => ?_); (repeat (simp only [go_sem, simprocAttr, List.length_map])); ((first | refine hK' _ _ ?_ | refine ⟨?_, hK' _ _ ?_⟩) <;> clear hK' K' <;> (first | (show alist _ _ _ _ _ _; skip) | (intro s hs; cases hs; done))))); all_goals (refine al_nil ?_; (simp only [go_sem, simprocAttr, List.length_map]); refine hK _ ?_; clear hK K))
  refine awp_if (decide ((h.length : Int) > 4000)) rfl (fun hc => ?_) (fun hc => ?_)
  · (refine awp_reg_seq [2, 3] fun K hK => ?_; (repeat' ((refine al_r rfl fun K' hK' => ?_); (repeat (simp only [go_sem, simprocAttr, List.length_map])); ((refine hK' _ _ ?_) <;> clear hK' K'))); all_goals (refine al_nil ?_; (simp only [go_sem, simprocAttr, List.length_map]); refine hK _ ?_; clear hK K))
    refine awp_ret ?_; (refine hR _ _ (.inl rfl) rfl ?_)
    rw [if_pos hc] at hv
    rw [hv]
    simp only [go_sem, simprocAttr, List.length_map, List.map_nil]
    rfl
  · rw [if_neg (by rw [hc]; simp)] at hv
    have h4 : h.length ≤ 4000 := by simp at hc; omega
    refine awp_skip ?_
    refine hK _ ?_; clear hK K
    (refine awp_reg_seq [0, 4] fun K hK => ?_; (repeat' ((refine al_r rfl fun K' hK' => ?_); (repeat (simp only [go_sem, simprocAttr, List.length_map])); ((refine hK' _ _ ?_) <;> clear hK' K'))); all_goals (refine al_nil ?_; (simp only [go_sem, simprocAttr, List.length_map]); refine hK _ ?_; clear hK K))
    refine awp_born 4 5 rfl ?_
    refine awp_seq_k fun K hK => ?_
    (refine awp_reg_seq [0, 4, 5] fun K hK => ?_; (repeat' ((refine al_r rfl fun K' hK' => ?_); (repeat (simp only [go_sem, simprocAttr, List.length_map])); ((refine hK' _ _ ?_) <;> clear hK' K'))); all_goals (refine al_nil ?_; (simp only [go_sem, simprocAttr, List.length_map]); refine hK _ ?_; clear hK K))
    refine awp_block ?_
    -- loop 0 head [0, 4, 5]
    refine awp_loop_cut (fun m s => ∃ (a f : Nat) (acc : List Obj), m = h.length - a ∧ a ≤ h.length ∧ acc.length ≤ a ∧ h.length - a < f ∧ R0 = objF h f a acc ∧ s = ⟨ofL [(0, words h), (4, .ref 0 0 acc.length), (5, iD a)], [.row 5 (acc.map Obj.row)], 0⟩) ⟨_, 0, h.length + 1, [], rfl, Nat.zero_le _, Nat.zero_le _, by omega, hv, rfl⟩ ?_
    clear hv
    rintro m s ⟨a, f, acc, hm, hal, hacc, hf, hR1, rfl⟩
    refine awp_seq_k fun K hK => ?_
    (refine awp_reg_seq [0, 4, 5, 14] fun K hK => ?_; (repeat' ((refine al_r rfl fun K' hK' => ?_); (repeat (simp only [go_sem, simprocAttr, List.length_map])); ((first | refine hK' _ _ ?_ | refine ⟨?_, hK' _ _ ?_⟩) <;> clear hK' K' <;> (first | (show alist _ _ _ _ _ _; skip) | (intro s hs; cases hs; done))))); all_goals (refine al_nil ?_; (simp only [go_sem, simprocAttr, List.length_map]); refine hK _ ?_; clear hK K))
    refine awp_if (decide ((a : Int) < (h.length : Int))) rfl (fun hc => ?_) (fun hc => ?_)
    · refine awp_skip ?_
      refine hK _ ?_; clear hK K
      refine awp_block ?_
      have ha2 : a < h.length := by simpa using hc
      obtain ⟨f', rfl⟩ : ∃ f', f = f' + 1 := ⟨f - 1, by omega⟩
      have hR2 : R0 = if (atS h a).2 != 0 then ([], 3) else objF h f' (a + roomN (atS h a).1.kind (atS h a).1.text.size (atS h a).1.parts.length) (acc ++ [(atS h a).1]) := by
        rw [hR1]; show (if a < h.length then _ else _) = _; rw [if_pos ha2]
      clear hR1
      have hat := at_ h a hlen hok
      have haok := at_ok (a := (a : Int)) (h := h)
      generalize atS h a = Q at hat haok hR2
      obtain ⟨o, e⟩ := Q
      simp only at hat haok hR2

      (refine awp_reg_seq [0, 4, 5, 6, 7] fun K hK => ?_; (repeat' ((first | refine al_r rfl fun K' hK' => ?_ | refine al_d rfl fun K' hK' => ?_); (repeat (first | (simp only [go_sem, simprocAttr, List.length_map]) | refine AS.mk ?_)); (first | ((first | refine hK' _ _ ?_ | refine ⟨?_, hK' _ _ ?_⟩) <;> clear hK' K' <;> (first | (show alist _ _ _ _ _ _; skip) | (simp; done))) | ((show AC _ _ (D.fn 19 _) _ _); refine acall_p (f := 19) (e := rfl) (hr := rfl) (k := hK' _ _ ?_) (hc := Try.call19) (h := hat); clear hK' K')))); all_goals (refine al_nil ?_; (simp only [go_sem, simprocAttr, List.length_map]); refine hK _ ?_; clear hK K))
      (refine awp_frz [0, 4, 5, 6, 7] [0] (by decide) (by (simp; done)) ?_; simp only [go_sem, simprocAttr, List.length_map])
      refine awp_seq_k fun K hK => ?_
      (refine awp_reg_seq [0, 4, 5, 6, 22] fun K hK => ?_; (repeat' ((refine al_r rfl fun K' hK' => ?_); (repeat (simp only [go_sem, simprocAttr, List.length_map])); ((refine hK' _ _ ?_) <;> clear hK' K'))); all_goals (refine al_nil ?_; (simp only [go_sem, simprocAttr, List.length_map]); refine hK _ ?_; clear hK K))
      refine awp_if (e != 0) rfl (fun hc => ?_) (fun hc => ?_)
      · (refine awp_reg_seq [2, 3] fun K hK => ?_; (repeat' ((refine al_r rfl fun K' hK' => ?_); (repeat (simp only [go_sem, simprocAttr, List.length_map])); ((refine hK' _ _ ?_) <;> clear hK' K'))); all_goals (refine al_nil ?_; (simp only [go_sem, simprocAttr, List.length_map]); refine hK _ ?_; clear hK K))
        refine awp_ret ?_; (refine hR _ _ (.inl rfl) rfl ?_)
        rw [if_pos hc] at hR2
        rw [hR2]
        simp only [go_sem, simprocAttr, List.length_map, List.map_nil]
        rfl
      · rw [if_neg (by rw [hc]; simp)] at hR2
        obtain ⟨n, hn, hnl, hoa, hri, hel, hel2, _⟩ := haok (by simpa using hc) hlen hok
        obtain rfl : a = n := by omega
        obtain ⟨hs64, hp400⟩ := right_small hri
        rw [enc_len] at hel hel2
        have hro := room o.kind o.text.size o.parts.length (by omega) (by omega)
        have hrm1 : 1 ≤ roomN o.kind o.text.size o.parts.length := by unfold roomN; omega
        generalize roomN o.kind o.text.size o.parts.length = rm at *
        have hwa : IntKind.i64.wrap ((a : Int) + (rm : Int)) = ((a + rm : Nat) : Int) := by rw [Go.Ab.wrap_small (by omega) (by omega)]; rfl
        have hta : List.take acc.length (acc.map Obj.row) = acc.map Obj.row := List.take_of_length_le (by simp)
        have hfa : (acc.length + 1) * 64 ≤ 140737488355328 := by omega

        refine awp_skip ?_
        refine hK _ ?_; clear hK K
        (refine awp_reg_seq [0, 4, 5, 6] fun K hK => ?_; (repeat' ((refine al_r rfl fun K' hK' => ?_); (repeat (first | (simp only [go_sem, simprocAttr, List.length_map, hwa, hta, hfa, List.drop_zero]) | refine AAp.grow ?_)); ((first | refine hK' _ _ ?_ | refine ⟨?_, ?_, hK' _ _ ?_⟩) <;> clear hK' K' <;> (first | (show alist _ _ _ _ _ _; skip) | (simp; done))))); all_goals (refine al_nil ?_; (simp only [go_sem, simprocAttr, List.length_map, hwa, hta, hfa, List.drop_zero]); refine hK _ ?_; clear hK K))
        (refine awp_reg_end [0, 4, 5] fun K hK => ?_; (repeat' ((refine al_r rfl fun K' hK' => ?_); (repeat (simp only [go_sem, simprocAttr, List.length_map, hwa, hta, hfa, List.drop_zero])); (first | ((first | refine hK' _ _ ?_ | refine ⟨?_, hK' _ _ ?_⟩) <;> clear hK' K' <;> (first | (show alist _ _ _ _ _ _; skip) | (intro s hs; cases hs; done) | (simp; done))) | ((show AC _ _ (D.fn 51 _) _ _); refine acall_p (f := 51) (e := rfl) (hr := rfl) (k := hK' _ _ ?_) (hc := Try.call51) (h := hro); clear hK' K')))); all_goals (refine al_nil ?_; (simp only [go_sem, simprocAttr, List.length_map, hwa, hta, hfa, List.drop_zero]); refine hK _ ?_; clear hK K))
        refine ⟨h.length - (a + rm), by omega, [0, 4, 5], [2], by decide, by intro q hq; exact absurd hq (Nat.not_lt_zero q), a + rm, f', acc ++ [o], rfl, hel2, by simp; omega, by omega, hR2, ?_⟩
        simp only [go_sem, simprocAttr, List.length_map, hwa, hta, hfa, List.drop_zero, Obj.row]

    · have hnot : ¬ a < h.length := by simpa using hc
      have hR3 : R0 = (acc, 0) := by
        rw [hR1]
        cases f with
        | zero => rfl
        | succ f => show (if a < h.length then _ else _) = _; rw [if_neg hnot]
      have hta : List.take acc.length (acc.map Obj.row) = acc.map Obj.row := List.take_of_length_le (by simp)
      refine awp_exit ?_
      clear hK
      refine hK _ ?_; clear hK K
      (refine awp_reg_seq [2, 3] fun K hK => ?_; (repeat' ((refine al_r rfl fun K' hK' => ?_); (repeat (simp only [go_sem, simprocAttr, List.length_map])); ((refine hK' _ _ ?_) <;> clear hK' K'))); all_goals (refine al_nil ?_; (simp only [go_sem, simprocAttr, List.length_map]); refine hK _ ?_; clear hK K))
      refine awp_ret ?_; (refine hR _ _ (.inl rfl) rfl ?_)
      rw [hR3]
      simp only [go_sem, simprocAttr, List.length_map, hta]
end Go.Proofs.Ytagphggcdmjlpaa.P

/- Words; the closed fact that the statements on heaps ask for. -/
namespace Go.Proofs.Ytagphggcdmjlpaa.P
open Go.Ab Go.Proofs.Ytagphggcdmjlpaa.T


theorem small (n : Int) : ACallP Try.prog 80 [iD n] (bD (decide (n ≥ -1152921504606846976) && decide (n < 1152921504606846976))) := by
  refine acallp_fn [2] Try.func80 rfl rfl Try.ntmps80 (by simp) fun R hR => ?_
  (refine awp_reg_seq [0] fun K hK => ?_; (repeat' ((refine al_r rfl fun K' hK' => ?_); (repeat (simp only [go_sem, simprocAttr])); ((refine hK' _ _ ?_) <;> clear hK' K'))); all_goals (refine al_nil ?_; (simp only [go_sem, simprocAttr]); refine hK _ ?_; clear hK K))
  (refine awp_reg_seq [2] fun K hK => ?_; (repeat' (first | ((first | refine al_r rfl fun K' hK' => ?_ | refine al_t rfl rfl fun K' hK' => ?_); (repeat (simp only [go_sem, simprocAttr])); ((refine hK' _ _ ?_) <;> clear hK' K')) | refine al_e rfl rfl ?_ | ((fail_if_success (refine al_t rfl rfl fun K' hK' => ?_)); refine al_s _ rfl rfl rfl (fun hb => ?_) (fun hb => ?_)))); all_goals (refine al_nil ?_; (simp only [go_sem, simprocAttr]); refine hK _ ?_; clear hK K))
  all_goals (refine awp_ret ?_; (refine hR _ _ (.inl rfl) rfl ?_); simp only [go_sem, simprocAttr, *, Bool.and_true, Bool.and_false, Bool.true_and, Bool.false_and, Bool.or_true, Bool.true_or, Bool.or_false, Bool.false_or, Bool.not_true, Bool.not_false, Bool.false_eq_true])

/-- May a word have this tag and this number? -/
def fits (t n : Int) : Bool :=
  (t == 0 && n == 0) || (t == 2 && (n == 0 || n == 1)) || (t == 1 && (decide (n ≥ -1152921504606846976) && decide (n < 1152921504606846976))) ||
  ((t == 3 || t == 4) && decide (n ≥ 0) && decide (n < 1152921504606846976))

/-- The word. -/
def wordOf (t n : Int) : Int := Go.bits .or .u64 (IntKind.u64.wrap ((IntKind.u64.wrap n) * 8)) (IntKind.u64.wrap t)


/-- What Word answers. -/
def wordS (t n : Int) : Int × Int := if fits t n = true then (wordOf t n, 0) else if (decide (t < 0) || decide (t > 4)) = true then (0, 1) else (0, 2)

theorem word (t n : Int) : ACallP Try.prog 57 [iD t, iD n] (.tup [wD (wordS t n).1, iD (wordS t n).2]) := by
  refine acallp_fn [4, 5] Try.func57 rfl rfl Try.ntmps57 (by simp) fun R hR => ?_
  (refine awp_reg_seq [0, 1] fun K hK => ?_; (repeat' ((refine al_r rfl fun K' hK' => ?_); (repeat (simp only [go_sem, simprocAttr])); ((refine hK' _ _ ?_) <;> clear hK' K'))); all_goals (refine al_nil ?_; (simp only [go_sem, simprocAttr]); refine hK _ ?_; clear hK K))
  refine awp_seq_k fun K hK => ?_
  refine awp_block ?_
  refine awp_seq_k fun K hK => ?_
  have key : ∀ b, b = fits t n → K ⟨ofL [(0, iD t), (1, iD n), (6, bD b)], [], 0⟩ := by
    rintro b rfl
    refine hK _ ?_; clear hK K
    refine awp_if (fits t n) rfl (fun hc => ?_) (fun hc => ?_)
    · (refine awp_reg_seq [4, 5] fun K hK => ?_; (repeat' ((refine al_r rfl fun K' hK' => ?_); (repeat (simp only [go_sem, simprocAttr])); ((refine hK' _ _ ?_) <;> clear hK' K'))); all_goals (refine al_nil ?_; (simp only [go_sem, simprocAttr]); refine hK _ ?_; clear hK K))
      refine awp_ret ?_; (refine hR _ _ (.inl rfl) rfl ?_)
      simp [go_sem, wordS, hc, wordOf]
    · refine awp_reg_to [49] (k := ?_) (h := ?_) (s1 := ⟨ofL [(49, bD (decide (t < 0) || decide (t > 4)))], [], 0⟩); · ((repeat' (first | ((first | refine al_r rfl fun K' hK' => ?_ | refine al_t rfl rfl fun K' hK' => ?_); (repeat (simp only [go_sem, simprocAttr])); ((refine hK' _ _ ?_) <;> clear hK' K')) | refine al_e rfl rfl ?_ | ((fail_if_success (refine al_t rfl rfl fun K' hK' => ?_)); refine al_s _ rfl rfl rfl (fun hb => ?_) (fun hb => ?_)))); all_goals (refine al_nil ?_; simp only [go_sem, simprocAttr, *, Bool.and_true, Bool.and_false, Bool.true_and, Bool.false_and, Bool.or_true, Bool.true_or, Bool.or_false, Bool.false_or, Bool.not_true, Bool.not_false, Bool.false_eq_true]))
      refine awp_if (_) rfl (fun hc => ?_) (fun hc => ?_)
      · (refine awp_reg_seq [4, 5] fun K hK => ?_; (repeat' ((refine al_r rfl fun K' hK' => ?_); (repeat (simp only [go_sem, simprocAttr])); ((refine hK' _ _ ?_) <;> clear hK' K'))); all_goals (refine al_nil ?_; (simp only [go_sem, simprocAttr]); refine hK _ ?_; clear hK K))
        refine awp_ret ?_; (refine hR _ _ (.inl rfl) rfl ?_)
        simp only [wordS, *, go_sem, simprocAttr]
      · refine awp_skip ?_
        refine hK _ ?_; clear hK K
        (refine awp_reg_seq [4, 5] fun K hK => ?_; (repeat' ((refine al_r rfl fun K' hK' => ?_); (repeat (simp only [go_sem, simprocAttr])); ((refine hK' _ _ ?_) <;> clear hK' K'))); all_goals (refine al_nil ?_; (simp only [go_sem, simprocAttr]); refine hK _ ?_; clear hK K))
        refine awp_ret ?_; (refine hR _ _ (.inl rfl) rfl ?_)
        simp only [wordS, *, go_sem, simprocAttr]
  clear hK
  refine awp_reg_to [0, 1, 6] (k := ?_) (h := ?_) (s1 := ⟨ofL [(0, iD t), (1, iD n), (6, bD (t == 0 && n == 0))], [], 0⟩); · ((repeat' (first | ((first | refine al_r rfl fun K' hK' => ?_ | refine al_t rfl rfl fun K' hK' => ?_); (repeat (simp only [go_sem, simprocAttr])); ((refine hK' _ _ ?_) <;> clear hK' K')) | refine al_e rfl rfl ?_ | ((fail_if_success (refine al_t rfl rfl fun K' hK' => ?_)); refine al_s _ rfl rfl rfl (fun hb => ?_) (fun hb => ?_)))); all_goals (refine al_nil ?_; simp only [go_sem, simprocAttr, *, Bool.and_true, Bool.and_false, Bool.true_and, Bool.false_and, Bool.or_true, Bool.true_or, Bool.or_false, Bool.false_or, Bool.not_true, Bool.not_false, Bool.false_eq_true]))
  refine awp_if (_) rfl (fun hc => ?_) (fun hc => ?_)
  · refine awp_skip ?_
    refine key _ ?_
    simp [fits, hc]
  · refine awp_reg_to [0, 1, 6] (k := ?_) (h := ?_) (s1 := ⟨ofL [(0, iD t), (1, iD n), (6, bD (t == 2 && (n == 0 || n == 1)))], [], 0⟩); · ((repeat' (first | ((first | refine al_r rfl fun K' hK' => ?_ | refine al_t rfl rfl fun K' hK' => ?_); (repeat (simp only [go_sem, simprocAttr])); ((refine hK' _ _ ?_) <;> clear hK' K')) | refine al_e rfl rfl ?_ | refine al_u rfl rfl ?_ | ((fail_if_success (refine al_t rfl rfl fun K' hK' => ?_)); refine al_s _ rfl rfl rfl (fun hb => ?_) (fun hb => ?_)))); all_goals (refine al_nil ?_; simp only [go_sem, simprocAttr, *, Bool.and_true, Bool.and_false, Bool.true_and, Bool.false_and, Bool.or_true, Bool.true_or, Bool.or_false, Bool.false_or, Bool.not_true, Bool.not_false, Bool.false_eq_true]))
    refine awp_if (_) rfl (fun hc => ?_) (fun hc => ?_)
    · refine awp_skip ?_
      refine key _ ?_
      simp [fits, hc]
    · refine awp_reg_to [0, 1, 6] (k := ?_) (h := ?_) (s1 := ⟨ofL [(0, iD t), (1, iD n), (6, bD (t == 1 && (decide (n ≥ -1152921504606846976) && decide (n < 1152921504606846976))))], [], 0⟩); · ((repeat' (first | ((first | refine al_r rfl fun K' hK' => ?_ | refine al_t rfl rfl fun K' hK' => ?_); (repeat (simp only [go_sem, simprocAttr])); (first | ((refine hK' _ _ ?_) <;> clear hK' K') | ((show AC _ _ (D.fn 80 _) _ _); refine acall_p (f := 80) (e := rfl) (hr := rfl) (k := hK' _ _ ?_) (hc := Try.call80) (h := small _); clear hK' K'))) | refine al_e rfl rfl ?_ | ((fail_if_success (refine al_t rfl rfl fun K' hK' => ?_)); refine al_s _ rfl rfl rfl (fun hb => ?_) (fun hb => ?_)))); all_goals (refine al_nil ?_; simp only [go_sem, simprocAttr, *, Bool.and_true, Bool.and_false, Bool.true_and, Bool.false_and, Bool.or_true, Bool.true_or, Bool.or_false, Bool.false_or, Bool.not_true, Bool.not_false, Bool.false_eq_true]))
      refine awp_if (_) rfl (fun hc => ?_) (fun hc => ?_)
      · refine awp_skip ?_
        refine key _ ?_
        simp only [fits, hc, Bool.or_true, Bool.true_or]
      · refine awp_reg_end_to [0, 1, 6] (k := ?_) (h := ?_) (s1 := ⟨ofL [(0, iD t), (1, iD n), (6, bD ((t == 3 || t == 4) && decide (n ≥ 0) && decide (n < 1152921504606846976)))], [], 0⟩); · ((repeat' (first | ((first | refine al_r rfl fun K' hK' => ?_ | refine al_t rfl rfl fun K' hK' => ?_); (repeat (simp only [go_sem, simprocAttr])); ((refine hK' _ _ ?_) <;> clear hK' K')) | refine al_e rfl rfl ?_ | ((fail_if_success (refine al_t rfl rfl fun K' hK' => ?_)); refine al_s _ rfl rfl rfl (fun hb => ?_) (fun hb => ?_)))); all_goals (refine al_nil ?_; simp only [go_sem, simprocAttr, *, Bool.and_true, Bool.and_false, Bool.true_and, Bool.false_and, Bool.or_true, Bool.true_or, Bool.or_false, Bool.false_or, Bool.not_true, Bool.not_false, Bool.false_eq_true]))
        refine key _ ?_
        simp only [fits, *, Bool.or_false, Bool.false_or]


abbrev valD (k n : Int) (t : ByteArray) (a : List (List PV)) : D := .agg [iD k, iD n, .p (.lit (.string t)), .p (.sl a)]


abbrev oA : Obj := ⟨0, 2, 0, ⟨#[97]⟩, []⟩
end Go.Proofs.Ytagphggcdmjlpaa.P

/- What the function of the statement HeapAll answers. -/
namespace Go.Proofs.Ytagphggcdmjlpaa.P
open Go.Ab Go.Proofs.Ytagphggcdmjlpaa.T

/-- Objects that lie one behind the other in a heap, from a place on to its end. -/
def Chain (h : List Int) : Nat → List Obj → Prop
  | a, [] => a = h.length
  | a, o :: l => o.at_ = a ∧ rightS o = true ∧ encW o = (h.drop a).take (encW o).length ∧ a + (encW o).length ≤ h.length ∧ Chain h (a + (encW o).length) l

theorem objF_chain {h : List Int} (hlen : h.length ≤ maxLen) (hok : ∀ w, w ∈ h → WordOk w) : ∀ (f a : Nat) (acc l : List Obj), h.length - a < f → a ≤ h.length → objF h f a acc = (l, 0) → ∃ l', l = acc ++ l' ∧ Chain h a l'
  | 0, a, acc, l, hf, _, _ => by omega
  | f + 1, a, acc, l, hf, ha, h1 => by
    unfold objF at h1
    by_cases hlt : a < h.length
    · rw [if_pos hlt] at h1
      by_cases he : ((atS h a).2 != 0) = true
      · rw [if_pos he] at h1; cases h1
      · rw [if_neg he] at h1
        obtain ⟨n, hn, hnl, hoa, hri, h4, h5, h6⟩ := at_ok (by simpa using he) hlen hok
        obtain rfl : a = n := by omega
        have hel := enc_len (atS h a).1
        rw [← hel] at h1
        have hpos : 1 ≤ (encW (atS h a).1).length := by simp [encW]
        obtain ⟨l', hl, hc⟩ := objF_chain hlen hok f _ _ l (by omega) h5 h1
        exact ⟨(atS h a).1 :: l', by rw [hl]; simp, hoa, hri, h6, h5, hc⟩
    · rw [if_neg hlt] at h1
      cases h1
      exact ⟨[], by simp, by show a = h.length; omega⟩

theorem closed : closedT Try.prog [23, 34] = true := by kernel_rfl
theorem word_rows {f : Nat} : ∀ (rows : List (List PV)), (∀ r, r ∈ rows → r.length = Try.prog.cellsOf 34 ∧ shapeOk Try.prog f 34 r) → ∃ ls : List Int, rows = ls.map wrow ∧ ∀ w, w ∈ ls → WordOk w
  | [], _ => ⟨[], rfl, fun w hw => by cases hw⟩
  | r :: rows, h => by
    obtain ⟨n, rfl, hn⟩ := shape_int Try.underlying34 (h r List.mem_cons_self).2
    obtain ⟨ls, rfl, hls⟩ := word_rows rows fun r hr => h r (List.mem_cons_of_mem _ hr)
    refine ⟨n :: ls, rfl, fun w hw => ?_⟩
    rcases List.mem_cons.1 hw with rfl | hw
    · simp [Lit.wf, IntKind.min, IntKind.max, IntKind.signed, IntKind.bits] at hn
      exact ⟨by omega, by omega⟩
    · exact hls w hw
theorem sh23 {f : Nat} {xs : List PV} (h : shapeOk Try.prog f 23 xs) : ∃ ls : List Int, xs = [.sl (ls.map wrow)] ∧ ls.length ≤ maxLen ∧ ∀ w, w ∈ ls → WordOk w := by
  obtain ⟨n, rows, _, e0, hmax, _, hr⟩ := shape_slice Try.underlying23 h
  obtain ⟨ls, rfl, hls⟩ := word_rows rows hr
  exact ⟨ls, e0, by simpa using hmax, hls⟩
end Go.Proofs.Ytagphggcdmjlpaa.P

/- Objects are read as they were written: plain facts. -/
namespace Go.Proofs.Ytagphggcdmjlpaa.P
open Go.Ab

theorem u64_small {n : Nat} (h : n < 18446744073709551616) : IntKind.u64.wrap (n : Int) = (n : Int) := by
  rw [IntKind.wrap_u64]; omega

theorem or_add {a b i : Nat} (h : b < 2 ^ i) : b ||| a * 2 ^ i = b + a * 2 ^ i := by
  have := Nat.shiftLeft_add_eq_or_of_lt h a
  rw [Nat.shiftLeft_eq] at this
  rw [Nat.or_comm, ← this]; omega

theorem right_kind {o : Obj} (h : rightS o = true) : ∃ k : Nat, o.kind = k ∧ 1 ≤ k ∧ k ≤ 5 := by
  unfold rightS at h
  simp only [Bool.and_eq_true, Bool.not_eq_true', Bool.or_eq_false_iff, decide_eq_false_iff_not] at h
  exact ⟨o.kind.toNat, by omega, by omega, by omega⟩

theorem head_val {o : Obj} (h : rightS o = true) {k : Nat} (hk : o.kind = k) (hk5 : k ≤ 5) : headS o = ((k + o.text.size * 256 + o.parts.length * 1048576 : Nat) : Int) := by
  obtain ⟨hs, hp⟩ := right_small h
  have e8 : (2 : Int) ^ min 8 64 = ((256 : Nat) : Int) := by decide
  have e20 : (2 : Int) ^ min 20 64 = ((1048576 : Nat) : Int) := by decide
  unfold headS
  rw [hk, e8, e20, u64_small (by omega), u64_small (by omega), u64_small (by omega), ← Int.natCast_mul, ← Int.natCast_mul, u64_small (by omega), u64_small (by omega)]
  rw [bits_or_u64_nat _ _ (by omega) (by omega)]
  have h1 := or_add (a := o.text.size) (b := k) (i := 8) (by omega)
  rw [show (2 : Nat) ^ 8 = 256 from rfl] at h1
  rw [h1, bits_or_u64_nat _ _ (by omega) (by omega)]
  have h2 := or_add (a := o.parts.length) (b := k + o.text.size * 256) (i := 20) (by omega)
  rw [show (2 : Nat) ^ 20 = 1048576 from rfl] at h2
  rw [h2]

theorem fdiv_nat (n : Nat) (k : Nat) : ((n : Nat) : Int).fdiv ((k : Nat) : Int) = ((n / k : Nat) : Int) := by
  rw [Int.fdiv_eq_ediv_of_nonneg _ (Int.natCast_nonneg k)]; rfl

theorem head_dec {o : Obj} (h : rightS o = true) : kN (headS o) = o.kind ∧ tN (headS o) = o.text.size ∧ pN (headS o) = o.parts.length ∧ (headS o).fdiv (2 ^ min 32 64) = 0 := by
  obtain ⟨k, hk, _, hk5⟩ := right_kind h
  obtain ⟨hs, hp⟩ := right_small h
  have e8 : (2 : Int) ^ min 8 64 = ((256 : Nat) : Int) := by decide
  have e20 : (2 : Int) ^ min 20 64 = ((1048576 : Nat) : Int) := by decide
  have e32 : (2 : Int) ^ min 32 64 = ((4294967296 : Nat) : Int) := by decide
  rw [head_val h hk hk5]
  have a255 : ∀ n : Nat, n &&& 255 = n % 256 := fun n => Nat.and_two_pow_sub_one_eq_mod n 8
  have a4095 : ∀ n : Nat, n &&& 4095 = n % 4096 := fun n => Nat.and_two_pow_sub_one_eq_mod n 12
  unfold kN tN pN
  rw [e8, e20, e32, fdiv_nat, fdiv_nat, fdiv_nat]
  have b1 := bits_and_u64_nat (k + o.text.size * 256 + o.parts.length * 1048576) 255 (by omega) (by omega)
  have b2 := bits_and_u64_nat ((k + o.text.size * 256 + o.parts.length * 1048576) / 256) 4095 (by omega) (by omega)
  have b3 := bits_and_u64_nat ((k + o.text.size * 256 + o.parts.length * 1048576) / 1048576) 4095 (by omega) (by omega)
  refine ⟨?_, ?_, ?_, ?_⟩
  · show IntKind.i64.wrap (bits .and .u64 _ ((255 : Nat) : Int)) = _
    rw [b1, a255, Go.Ab.wrap_small (by omega) (by omega), hk]; omega
  · show IntKind.i64.wrap (bits .and .u64 _ ((4095 : Nat) : Int)) = _
    rw [b2, a4095, Go.Ab.wrap_small (by omega) (by omega)]; omega
  · show IntKind.i64.wrap (bits .and .u64 _ ((4095 : Nat) : Int)) = _
    rw [b3, a4095, Go.Ab.wrap_small (by omega) (by omega)]; omega
  · omega

/-- The value of a byte of a text; none is nought. -/
def byteV (s : ByteArray) (i : Nat) : Nat := match s[i]? with | some b => b.toNat | none => 0
theorem byteV_lt (s : ByteArray) (i : Nat) : byteV s i < 256 := by
  unfold byteV
  split
  · exact UInt8.toNat_lt _
  · decide

def sumF (s : ByteArray) (i : Nat) : Nat → Nat → Nat
  | 0, _ => 0
  | m + 1, k => byteV s (i + k) * 2 ^ (8 * k) + sumF s i m (k + 1)

theorem orStep_val (s : ByteArray) (i : Nat) {k w : Nat} (hk : k < 8) (hw : w < 2 ^ (8 * k)) : orStep s i k (w : Int) = ((w + byteV s (i + k) * 2 ^ (8 * k) : Nat) : Int) ∧ w + byteV s (i + k) * 2 ^ (8 * k) < 2 ^ (8 * (k + 1)) := by
  have hb := byteV_lt s (i + k)
  have hpow : 2 ^ (8 * (k + 1)) = 256 * 2 ^ (8 * k) := by rw [Nat.mul_add, Nat.mul_one, Nat.pow_add, Nat.mul_comm]
  have hle : (2 : Nat) ^ (8 * (k + 1)) ≤ 2 ^ 64 := Nat.pow_le_pow_right (by decide) (by omega)
  have hprod : byteV s (i + k) * 2 ^ (8 * k) ≤ 255 * 2 ^ (8 * k) := Nat.mul_le_mul_right _ (by omega)
  have hlt : w + byteV s (i + k) * 2 ^ (8 * k) < 2 ^ (8 * (k + 1)) := by rw [hpow]; omega
  refine ⟨?_, hlt⟩
  have h64 : (2 : Nat) ^ 64 = 18446744073709551616 := rfl
  unfold orStep
  unfold byteV at hlt ⊢
  cases hsb : s[i + k]? with
  | none => simp
  | some b =>
    rw [hsb] at hlt
    simp only at hlt ⊢
    have hbl := UInt8.toNat_lt b
    have hmin : min (8 * k) 64 = 8 * k := by omega
    rw [hmin, u64_small (n := b.toNat) (by omega)]
    have hcast : ((b.toNat : Nat) : Int) * 2 ^ (8 * k) = ((b.toNat * 2 ^ (8 * k) : Nat) : Int) := by
      rw [Int.natCast_mul, Int.natCast_pow]; rfl
    rw [hcast, u64_small (by omega), bits_or_u64_nat _ _ (by omega) (by omega), or_add hw]

theorem orF_val (s : ByteArray) (i : Nat) : ∀ (m k w : Nat), k + m ≤ 8 → w < 2 ^ (8 * k) → orF s i m k (w : Int) = ((w + sumF s i m k : Nat) : Int)
  | 0, _, _, _, _ => rfl
  | m + 1, k, w, hk, hw => by
    obtain ⟨h1, h2⟩ := orStep_val s i (k := k) (by omega) hw
    show orF s i m (k + 1) (orStep s i k w) = _
    rw [h1, orF_val s i m (k + 1) _ (by omega) h2]
    show ((_ + _ : Nat) : Int) = ((w + (byteV s (i + k) * 2 ^ (8 * k) + sumF s i m (k + 1)) : Nat) : Int)
    rw [Nat.add_assoc]

theorem word_val (s : ByteArray) (i : Nat) : wordAt s i = ((sumF s i 8 0 : Nat) : Int) := by
  have := orF_val s i 8 0 0 (by omega) (by decide)
  rw [Nat.zero_add] at this
  exact this

theorem byte_dec (s : ByteArray) (i : Nat) {j : Nat} (hj : j < 8) : IntKind.u8.wrap ((wordAt s i).fdiv (2 ^ min (8 * j) 64)) = (byteV s (i + j) : Int) := by
  have hmin : min (8 * j) 64 = 8 * j := by omega
  have hp : (2 : Int) ^ (8 * j) = ((2 ^ (8 * j) : Nat) : Int) := by rw [Int.natCast_pow]; rfl
  rw [word_val, hmin, hp, fdiv_nat]
  have b0 := byteV_lt s (i + 0)
  have b1 := byteV_lt s (i + 1)
  have b2 := byteV_lt s (i + 2)
  have b3 := byteV_lt s (i + 3)
  have b4 := byteV_lt s (i + 4)
  have b5 := byteV_lt s (i + 5)
  have b6 := byteV_lt s (i + 6)
  have b7 := byteV_lt s (i + 7)
  have hs : sumF s i 8 0 = byteV s (i + 0) + byteV s (i + 1) * 256 + byteV s (i + 2) * 65536 + byteV s (i + 3) * 16777216 + byteV s (i + 4) * 4294967296 + byteV s (i + 5) * 1099511627776 + byteV s (i + 6) * 281474976710656 + byteV s (i + 7) * 72057594037927936 := by
    show byteV s (i + 0) * 2 ^ 0 + (byteV s (i + 1) * 2 ^ 8 + (byteV s (i + 2) * 2 ^ 16 + (byteV s (i + 3) * 2 ^ 24 + (byteV s (i + 4) * 2 ^ 32 + (byteV s (i + 5) * 2 ^ 40 + (byteV s (i + 6) * 2 ^ 48 + (byteV s (i + 7) * 2 ^ 56 + 0))))))) = _
    omega
  rw [hs]
  have hw : ∀ n : Nat, IntKind.u8.wrap (n : Int) = ((n % 256 : Nat) : Int) := fun n => by
    simp [IntKind.wrap, IntKind.bits, IntKind.signed]
  rw [hw]
  congr 1
  match j, hj with
  | 0, _ => simp only [Nat.mul_zero, Nat.pow_zero, Nat.div_one]; omega
  | 1, _ => rw [show (2 : Nat) ^ (8 * 1) = 256 from rfl]; omega
  | 2, _ => rw [show (2 : Nat) ^ (8 * 2) = 65536 from rfl]; omega
  | 3, _ => rw [show (2 : Nat) ^ (8 * 3) = 16777216 from rfl]; omega
  | 4, _ => rw [show (2 : Nat) ^ (8 * 4) = 4294967296 from rfl]; omega
  | 5, _ => rw [show (2 : Nat) ^ (8 * 5) = 1099511627776 from rfl]; omega
  | 6, _ => rw [show (2 : Nat) ^ (8 * 6) = 281474976710656 from rfl]; omega
  | 7, _ => rw [show (2 : Nat) ^ (8 * 7) = 72057594037927936 from rfl]; omega

theorem textF_get (s : ByteArray) : ∀ (m i q : Nat), q < m → (textF s m i)[q]? = some (wordAt s (i + 8 * q))
  | m + 1, i, 0, _ => rfl
  | m + 1, i, q + 1, h => by
    show (wordAt s i :: textF s m (i + 8))[q + 1]? = _
    rw [List.getElem?_cons_succ, textF_get s m (i + 8) q (by omega)]
    congr 2; omega

theorem bytes_dec (pre post : List Int) (s : ByteArray) : bytesN (pre ++ (textW s ++ post)) pre.length s.size = (List.range s.size).map fun i => (byteV s i : Int) := by
  unfold bytesN
  refine List.map_congr_left fun i hi => ?_
  have hi := List.mem_range.1 hi
  unfold byteN
  have hq : i / 8 < (s.size + 7) / 8 := by omega
  have h1 : (pre ++ (textW s ++ post)).getD (pre.length + i / 8) 0 = wordAt s (8 * (i / 8)) := by
    unfold List.getD
    rw [List.getElem?_append_right (by omega), Nat.add_sub_cancel_left, List.getElem?_append_left (by unfold textW; rw [textF_len]; exact hq)]
    unfold textW
    rw [textF_get s _ 0 _ hq, Nat.zero_add]; rfl
  rw [h1, byte_dec s _ (Nat.mod_lt _ (by decide))]
  congr 2; omega

theorem pushB_bytes (s : ByteArray) : pushB ((List.range s.size).map fun i => (byteV s i : Int)) = s := by
  unfold pushB
  rw [foldl_push_bytes]
  obtain ⟨data⟩ := s
  have hd : ((List.range (ByteArray.mk data).size).map fun i => (byteV ⟨data⟩ i : Int)).map (fun n => UInt8.ofNat n.toNat) = data.toList := by
    apply List.ext_getElem?
    intro i
    rw [List.getElem?_map, List.getElem?_map]
    by_cases h : i < data.size
    · rw [List.getElem?_range (show i < (ByteArray.mk data).size from h), Array.getElem?_toList, Array.getElem?_eq_getElem h]
      have : (ByteArray.mk data)[i]? = some data[i] := by
        rw [getElem?_pos (ByteArray.mk data) i h]; rfl
      simp [byteV, this]
    · rw [List.getElem?_eq_none (show (List.range (ByteArray.mk data).size).length ≤ i by rw [List.length_range]; exact Nat.le_of_not_lt h), Array.getElem?_toList, Array.getElem?_eq_none (by omega)]
      rfl
  rw [hd]
  show (ByteArray.mk (#[] ++ data.toList.toArray)) = _
  simp
end Go.Proofs.Ytagphggcdmjlpaa.P

/- A heap of objects: what At and Objects answer. -/
namespace Go.Proofs.Ytagphggcdmjlpaa.P
open Go.Ab

abbrev NumOk (n : Int) : Prop := -9223372036854775808 ≤ n ∧ n ≤ 9223372036854775807

/-- An object at another place. -/
def Obj.to (o : Obj) (a : Nat) : Obj := ⟨a, o.kind, o.num, o.text, o.parts⟩

theorem put_nil {o : Obj} (h : rightS o = true) : putS [] o = (encW o, 0, 0) := by
  obtain ⟨h1, h2⟩ := right_small h
  have hr : roomN o.kind o.text.size o.parts.length ≤ 500 := by
    unfold roomN
    split <;> omega
  unfold putS
  rw [h, if_neg (by simp), if_neg (by simp; omega)]
  rfl

theorem num_back {n : Int} (h : NumOk n) : IntKind.i64.wrap (IntKind.u64.wrap n) = n := by
  rw [IntKind.wrap_u64]
  simp only [IntKind.wrap, IntKind.bits, IntKind.signed]
  simp
  obtain ⟨h1, h2⟩ := h
  omega

theorem obj_dec (pre1 post : List Int) (o : Obj) (n : Nat) (k num : Int) : objO (pre1 ++ (textW o.text ++ (o.parts ++ post))) n k num o.text.size o.parts.length pre1.length = ⟨n, k, num, o.text, o.parts⟩ := by
  unfold objO
  rw [bytes_dec, pushB_bytes]
  have : List.drop (pre1.length + (o.text.size + 7) / 8) (pre1 ++ (textW o.text ++ (o.parts ++ post))) = o.parts ++ post := by
    rw [← List.drop_drop, List.drop_left]
    have hl : (o.text.size + 7) / 8 = (textW o.text).length := by unfold textW; rw [textF_len]
    rw [hl, List.drop_left]
  rw [this, List.take_left]

theorem at_enc (pre post : List Int) (o : Obj) (hr : rightS o = true) (hn : NumOk o.num) : atS (pre ++ (encW o ++ post)) pre.length = (o.to pre.length, 0) := by
  obtain ⟨d1, d2, d3, d4⟩ := head_dec hr
  have hel := enc_len o
  have hput := put_nil (o := o.to pre.length) hr
  have henc : encW (o.to pre.length) = encW o := rfl
  rw [henc] at hput
  have hlen : (pre ++ (encW o ++ post)).length = pre.length + (encW o).length + post.length := by simp; omega
  have hpos : 1 ≤ (encW o).length := by simp [encW]
  have hget : (pre ++ (encW o ++ post))[pre.length]? = some (headS o) := by
    rw [List.getElem?_append_right (Nat.le_refl _), Nat.sub_self]; rfl
  have hcut : ∀ m, m = (encW o).length → ((pre ++ (encW o ++ post)).drop pre.length).take m = encW o := fun m hm => by
    rw [List.drop_left, hm, List.take_left]
  have hat : ∀ m, m = (encW o).length → atO (pre ++ (encW o ++ post)) pre.length (o.to pre.length) m = (o.to pre.length, 0) := fun m hm => by
    unfold atO
    rw [hcut m hm, hput, (listEq_iff eqI_iff).2 rfl]
    rfl
  unfold atS
  rw [if_neg (by simp; omega), Int.toNat_natCast, hget]
  simp only
  rw [d1, d2, d3, d4, Int.toNat_natCast, Int.toNat_natCast, ← hel, if_neg (by simp; omega)]
  have hroom := hel
  unfold roomN at hroom
  unfold atR
  by_cases hk : numK o.kind = true
  · rw [if_pos hk]
    rw [if_pos hk] at hroom
    have hnw : numW o = [IntKind.u64.wrap o.num] := by unfold numW; rw [if_pos hk]
    have hsh : pre ++ (encW o ++ post) = (pre ++ [headS o, IntKind.u64.wrap o.num]) ++ (textW o.text ++ (o.parts ++ post)) := by
      unfold encW; rw [hnw]; simp
    have hg1 : (pre ++ (encW o ++ post)).getD (pre.length + 1) 0 = IntKind.u64.wrap o.num := by
      unfold List.getD encW
      rw [hnw, List.getElem?_append_right (by omega), Nat.add_sub_cancel_left]; rfl
    have hl2 : pre.length + 2 = (pre ++ [headS o, IntKind.u64.wrap o.num]).length := by simp
    have hob : objO (pre ++ (encW o ++ post)) pre.length o.kind (IntKind.i64.wrap ((pre ++ (encW o ++ post)).getD (pre.length + 1) 0)) o.text.size o.parts.length (pre.length + 2) = o.to pre.length := by
      rw [hg1, num_back hn, hsh, hl2, obj_dec]; rfl
    rw [hob]
    exact hat _ (by omega)
  · rw [if_neg hk]
    rw [if_neg hk] at hroom
    have hnw : numW o = [] := by unfold numW; rw [if_neg hk]
    have hn0 : o.num = 0 := by
      unfold rightS at hr
      unfold numK at hk
      simp only [Bool.or_eq_true, beq_iff_eq, not_or] at hk
      simp only [Bool.and_eq_true, Bool.not_eq_true', Bool.and_eq_false_imp] at hr
      have := hr.2.2.2.1 (by simp [hk.1, hk.2])
      simpa using this
    have hsh : pre ++ (encW o ++ post) = (pre ++ [headS o]) ++ (textW o.text ++ (o.parts ++ post)) := by
      unfold encW; rw [hnw]; simp
    have hl2 : pre.length + 1 = (pre ++ [headS o]).length := by simp
    have hob : objO (pre ++ (encW o ++ post)) pre.length o.kind 0 o.text.size o.parts.length (pre.length + 1) = o.to pre.length := by
      rw [hsh, hl2, obj_dec, ← hn0]; rfl
    rw [hob]
    exact hat _ (by omega)

/-- The words of objects, one behind the other; and the objects at their places. -/
def flat : List Obj → List Int
  | [] => []
  | o :: l => encW o ++ flat l
def place : Nat → List Obj → List Obj
  | _, [] => []
  | a, o :: l => o.to a :: place (a + (encW o).length) l

theorem place_len : ∀ (a : Nat) (l : List Obj), (place a l).length = l.length
  | _, [] => rfl
  | a, o :: l => by rw [place, List.length_cons, place_len, List.length_cons]

theorem flat_append (l m : List Obj) : flat (l ++ m) = flat l ++ flat m := by
  induction l with
  | nil => rfl
  | cons o l ih => show encW o ++ flat (l ++ m) = _; rw [ih, ← List.append_assoc]; rfl

theorem chain_flat {h : List Int} : ∀ {l : List Obj} {a : Nat}, Chain h a l → h.drop a = flat l
  | [], a, hc => by have : a = h.length := hc; rw [this, List.drop_length]; rfl
  | o :: l, a, hc => by
    obtain ⟨_, _, h1, h2, h3⟩ := hc
    have ih := chain_flat h3
    show _ = encW o ++ flat l
    rw [← ih, ← List.drop_drop]
    conv => rhs; rw [h1]
    rw [List.length_take, List.length_drop, Nat.min_eq_left (by omega), List.take_append_drop]
end Go.Proofs.Ytagphggcdmjlpaa.P

/- Values that are words: a contract. -/
namespace Go.Proofs.Ytagphggcdmjlpaa.P
open Go.Ab Go.Proofs.Ytagphggcdmjlpaa.T

/-- The tag of a kind. -/
def tagOf (k : Int) : Int := if k = 1 then 0 else if k = 2 then 1 else if k = 3 then 2 else if k = 6 then 3 else -1

/-- What Of answers. -/
def ofS (k n : Int) (text : ByteArray) (args : List (List PV)) : Int × Bool :=
  if decide (tagOf k < 0) || !(text.toList == (ByteArray.mk #[]).toList) || decide ((args.length : Int) > 0) then (0, false) else ((wordS (tagOf k) n).1, (wordS (tagOf k) n).2 == 0)

theorem of (k n : Int) (text : ByteArray) (args : List (List PV)) : ACallP Try.prog 56 [valD k n text args] (.tup [wD (ofS k n text args).1, bD (ofS k n text args).2]) := by
  have hw := word (tagOf k) n
  have hv : ofS k n text args = if decide (tagOf k < 0) || !(text.toList == (ByteArray.mk #[]).toList) || decide ((args.length : Int) > 0) then (0, false) else ((wordS (tagOf k) n).1, (wordS (tagOf k) n).2 == 0) := rfl
  generalize wordS (tagOf k) n = x at hw hv
  obtain ⟨x, e⟩ := x
  simp only at hw hv
  rw [hv]
  clear hv
  generalize ht : tagOf k = t at hw ⊢
  refine acallp_fn [2, 3] Try.func56 rfl rfl Try.ntmps56 (by simp) fun R hR => ?_
  (refine awp_reg_seq [1] fun K hK => ?_; (repeat' ((refine al_r rfl fun K' hK' => ?_); (repeat (simp only [go_sem, simprocAttr])); ((refine hK' _ _ ?_) <;> clear hK' K'))); all_goals (refine al_nil ?_; (simp only [go_sem, simprocAttr]); refine hK _ ?_; clear hK K))
  (refine awp_frz [1] [] (by decide) (by (simp; done)) ?_; simp only [go_sem, simprocAttr])
  (refine awp_reg_seq [1, 4] fun K hK => ?_; (repeat' ((refine al_r rfl fun K' hK' => ?_); (repeat (simp only [go_sem, simprocAttr])); ((refine hK' _ _ ?_) <;> clear hK' K'))); all_goals (refine al_nil ?_; (simp only [go_sem, simprocAttr]); refine hK _ ?_; clear hK K))
  refine awp_seq_k fun K hK => ?_
  (refine awp_reg_seq [1, 4, 8] fun K hK => ?_; (repeat' ((refine al_r rfl fun K' hK' => ?_); (repeat (simp only [go_sem, simprocAttr])); ((refine hK' _ _ ?_) <;> clear hK' K'))); all_goals (refine al_nil ?_; (simp only [go_sem, simprocAttr]); refine hK _ ?_; clear hK K))
  have key : ∀ d9 d11 d13 d15, K ⟨ofL [(1, .rd [.lit (.int .i64 k), .lit (.int .i64 n), .lit (.string text), .sl args] 0), (4, iD t), (9, d9), (11, d11), (13, d13), (15, d15)], [], 0⟩ := by
    intro d9 d11 d13 d15
    refine hK _ ?_; clear hK K
    refine awp_seq_k fun K hK => ?_
    refine awp_reg_to [1, 4, 29] (k := ?_) (h := ?_) (s1 := ⟨ofL [(1, .rd [.lit (.int .i64 k), .lit (.int .i64 n), .lit (.string text), .sl args] 0), (4, iD t), (29, bD (decide (t < 0) || !(text.toList == (ByteArray.mk #[]).toList) || decide ((args.length : Int) > 0)))], [], 0⟩); · ((repeat' (first | ((first | refine al_r rfl fun K' hK' => ?_ | refine al_t rfl rfl fun K' hK' => ?_); (repeat (simp only [go_sem, simprocAttr])); ((first | refine hK' _ _ ?_ | refine ⟨?_, hK' _ _ ?_⟩) <;> clear hK' K' <;> (first | (show alist _ _ _ _ _ _; skip) | (intro s hs; cases hs; done)))) | refine al_e rfl rfl ?_ | ((fail_if_success (refine al_t rfl rfl fun K' hK' => ?_)); refine al_s _ rfl rfl rfl (fun hb => ?_) (fun hb => ?_)))); all_goals (refine al_nil ?_; simp only [go_sem, simprocAttr, *, Bool.and_true, Bool.and_false, Bool.true_and, Bool.false_and, Bool.or_true, Bool.true_or, Bool.or_false, Bool.false_or, Bool.not_true, Bool.not_false, Bool.false_eq_true]))
    refine awp_if (_) rfl (fun hc => ?_) (fun hc => ?_)
    · (refine awp_reg_seq [2, 3] fun K hK => ?_; (repeat' ((refine al_r rfl fun K' hK' => ?_); (repeat (simp only [go_sem, simprocAttr])); ((refine hK' _ _ ?_) <;> clear hK' K'))); all_goals (refine al_nil ?_; (simp only [go_sem, simprocAttr]); refine hK _ ?_; clear hK K))
      refine awp_ret ?_; (refine hR _ _ (.inl rfl) rfl ?_)
      simp only [hc, go_sem, simprocAttr]
    · refine awp_skip ?_
      refine hK _ ?_; clear hK K
      (refine awp_reg_seq [5, 6] fun K hK => ?_; (repeat' ((refine al_r rfl fun K' hK' => ?_); (repeat (simp only [go_sem, simprocAttr])); (first | ((refine hK' _ _ ?_) <;> clear hK' K') | ((show AC _ _ (D.fn 57 _) _ _); refine acall_p (f := 57) (e := rfl) (hr := rfl) (k := hK' _ _ ?_) (hc := Try.call57) (h := hw); clear hK' K')))); all_goals (refine al_nil ?_; (simp only [go_sem, simprocAttr]); refine hK _ ?_; clear hK K))
      (refine awp_reg_seq [2, 3] fun K hK => ?_; (repeat' ((refine al_r rfl fun K' hK' => ?_); (repeat (simp only [go_sem, simprocAttr])); ((refine hK' _ _ ?_) <;> clear hK' K'))); all_goals (refine al_nil ?_; (simp only [go_sem, simprocAttr]); refine hK _ ?_; clear hK K))
      refine awp_ret ?_; (refine hR _ _ (.inl rfl) rfl ?_)
      simp only [hc, go_sem, simprocAttr, Bool.false_eq_true]
  clear hK
  refine awp_block ?_
  (refine awp_reg_seq [1, 4, 8, 9] fun K hK => ?_; (repeat' ((refine al_r rfl fun K' hK' => ?_); (repeat (simp only [go_sem, simprocAttr])); ((refine hK' _ _ ?_) <;> clear hK' K'))); all_goals (refine al_nil ?_; (simp only [go_sem, simprocAttr]); refine hK _ ?_; clear hK K))
  refine awp_if (_) rfl (fun hc => ?_) (fun hc => ?_)
  · (refine awp_reg_end [1, 4, 9, 11, 13, 15] fun K hK => ?_; (repeat' ((refine al_r rfl fun K' hK' => ?_); (repeat (simp only [go_sem, simprocAttr])); ((refine hK' _ _ ?_) <;> clear hK' K'))); all_goals (refine al_nil ?_; (simp only [go_sem, simprocAttr]); refine hK _ ?_; clear hK K))
    have h1 : k = 1 := by simpa using hc
    have : t = 0 := by rw [← ht, h1]; rfl
    subst this
    exact key _ _ _ _
  · have n1 : k ≠ 1 := by simpa using hc
    (refine awp_reg_seq [1, 4, 8, 9, 11] fun K hK => ?_; (repeat' ((refine al_r rfl fun K' hK' => ?_); (repeat (simp only [go_sem, simprocAttr])); ((refine hK' _ _ ?_) <;> clear hK' K'))); all_goals (refine al_nil ?_; (simp only [go_sem, simprocAttr]); refine hK _ ?_; clear hK K))
    refine awp_if (_) rfl (fun hc => ?_) (fun hc => ?_)
    · (refine awp_reg_end [1, 4, 9, 11, 13, 15] fun K hK => ?_; (repeat' ((refine al_r rfl fun K' hK' => ?_); (repeat (simp only [go_sem, simprocAttr])); ((refine hK' _ _ ?_) <;> clear hK' K'))); all_goals (refine al_nil ?_; (simp only [go_sem, simprocAttr]); refine hK _ ?_; clear hK K))
      have h1 : k = 2 := by simpa using hc
      have : t = 1 := by rw [← ht, h1]; rfl
      subst this
      exact key _ _ _ _
    · have n2 : k ≠ 2 := by simpa using hc
      (refine awp_reg_seq [1, 4, 8, 9, 11, 13] fun K hK => ?_; (repeat' ((refine al_r rfl fun K' hK' => ?_); (repeat (simp only [go_sem, simprocAttr])); ((refine hK' _ _ ?_) <;> clear hK' K'))); all_goals (refine al_nil ?_; (simp only [go_sem, simprocAttr]); refine hK _ ?_; clear hK K))
      refine awp_if (_) rfl (fun hc => ?_) (fun hc => ?_)
      · (refine awp_reg_end [1, 4, 9, 11, 13, 15] fun K hK => ?_; (repeat' ((refine al_r rfl fun K' hK' => ?_); (repeat (simp only [go_sem, simprocAttr])); ((refine hK' _ _ ?_) <;> clear hK' K'))); all_goals (refine al_nil ?_; (simp only [go_sem, simprocAttr]); refine hK _ ?_; clear hK K))
        have h1 : k = 3 := by simpa using hc
        have : t = 2 := by rw [← ht, h1]; rfl
        subst this
        exact key _ _ _ _
      · have n3 : k ≠ 3 := by simpa using hc
        (refine awp_reg_seq [1, 4, 9, 11, 13, 15] fun K hK => ?_; (repeat' ((refine al_r rfl fun K' hK' => ?_); (repeat (simp only [go_sem, simprocAttr])); ((refine hK' _ _ ?_) <;> clear hK' K'))); all_goals (refine al_nil ?_; (simp only [go_sem, simprocAttr]); refine hK _ ?_; clear hK K))
        refine awp_if (_) rfl (fun hc => ?_) (fun hc => ?_)
        · (refine awp_reg_end [1, 4, 9, 11, 13, 15] fun K hK => ?_; (repeat' ((refine al_r rfl fun K' hK' => ?_); (repeat (simp only [go_sem, simprocAttr])); ((refine hK' _ _ ?_) <;> clear hK' K'))); all_goals (refine al_nil ?_; (simp only [go_sem, simprocAttr]); refine hK _ ?_; clear hK K))
          have h1 : k = 6 := by simpa using hc
          have : t = 3 := by rw [← ht, h1]; rfl
          subst this
          exact key _ _ _ _
        · have n4 : k ≠ 6 := by simpa using hc
          refine awp_skip ?_
          have : t = -1 := by rw [← ht]; simp only [tagOf, if_neg n1, if_neg n2, if_neg n3, if_neg n4]
          subst this
          exact key _ _ _ _


end Go.Proofs.Ytagphggcdmjlpaa.P

/- A value is built in a heap: a contract. -/
namespace Go.Proofs.Ytagphggcdmjlpaa.P
open Go.Ab Go.Proofs.Ytagphggcdmjlpaa.T

theorem bits_ok (op : BinOp) (x y : Int) : WordOk (bits op .u64 x y) := by
  have := wf_bits op .u64 x y
  simp [Lit.wf, IntKind.min, IntKind.max, IntKind.signed, IntKind.bits] at this
  exact ⟨by omega, by omega⟩

theorem wordS_ok (t n : Int) : WordOk (wordS t n).1 := by
  unfold wordS
  split
  · show WordOk (wordOf t n)
    exact bits_ok _ _ _
  · split
    · exact ⟨by decide, by decide⟩
    · exact ⟨by decide, by decide⟩

/-- What the objects of a heap are made of. -/
abbrev ObjOk (o : Obj) : Prop := rightS o = true ∧ NumOk o.num ∧ ∀ w, w ∈ o.parts → WordOk w
end Go.Proofs.Ytagphggcdmjlpaa.P

/- A value that is built makes a heap grow by objects; the depth of values, told ahead. -/
namespace Go.Proofs.Ytagphggcdmjlpaa.P
open Go.Ab Go.Proofs.Ytagphggcdmjlpaa.T

theorem c3 : Try.prog.cellsOf 3 = 1 := by kernel_rfl
end Go.Proofs.Ytagphggcdmjlpaa.P

/- What the function of the statement HeapWhole answers. -/
namespace Go.Proofs.Ytagphggcdmjlpaa.P
open Go.Ab Go.Proofs.Ytagphggcdmjlpaa.T

abbrev irow (n : Int) : List PV := [.lit (.int .i64 n)]
abbrev ints (ns : List Int) : D := .p (.sl (ns.map irow))


theorem indexE (ls : List Int) (hlen : ls.length ≤ maxLen) (f : FuncId) (caps : List D) (p : Int → Bool) (obs : List Ob) (ids : List Nat) (hub : ∀ o, o ∈ obs → o ≠ .unborn) (hd : ids.Nodup) (hp : ∀ k, k < obs.length → ids[k]? = some k)
    (hcap : caps.map (D.map (ren1 ids)) = caps) (hob : newObs obs ids = obs) (hm : merge obs ids obs = obs) (hlt : ∀ i, i ∈ ids → i < obs.length) (hl : ids.length ≤ obs.length)
    (hcf : ∀ args w, (callFunc f args).run Try.prog w = .ok (.enter f args) w) (h : ∀ n, n ∈ ls → ACallO Try.prog f (iD n :: caps) obs (bD (p n))) :
    ACallO Try.prog 79 [ints ls, .fn f caps] obs (iD (firstAt p ls)) := by
  refine acallo_fn [4] ids Try.func79 rfl rfl Try.ntmps79 (by simp) hub hd hp fun R hR => ?_
  (refine awp_reg_seq [0, 1] fun K hK => ?_; (repeat' ((refine al_r rfl fun K' hK' => ?_); (repeat (simp only [go_sem, simprocAttr, List.length_map])); ((refine hK' _ _ ?_) <;> clear hK' K'))); all_goals (refine al_nil ?_; (simp only [go_sem, simprocAttr, List.length_map]); refine hK _ ?_; clear hK K))
  refine awp_seq_k fun K hK => ?_
  (refine awp_reg_seq [0, 1, 7, 8] fun K hK => ?_; (repeat' ((refine al_r rfl fun K' hK' => ?_); (repeat (simp only [go_sem, simprocAttr, List.length_map])); ((first | refine hK' _ _ ?_ | refine ⟨?_, hK' _ _ ?_⟩) <;> clear hK' K' <;> (first | (show alist _ _ _ _ _ _; skip) | (intro s hs; cases hs; done))))); all_goals (refine al_nil ?_; (simp only [go_sem, simprocAttr, List.length_map]); refine hK _ ?_; clear hK K))
  refine awp_block ?_
  refine awp_loop (fun m s => ∃ i : Nat, i ≤ ls.length ∧ m = ls.length - i ∧ (∀ j, j < i → ∀ y, ls[j]? = some y → p y = false) ∧ s = ⟨ofL [(0, ints ls), (1, .fn f caps), (7, iD ls.length), (8, iD i)], obs, obs.length⟩) ⟨_, 0, Nat.zero_le _, rfl, fun j hj => absurd hj (by omega), rfl⟩ ?_
  rintro m s ⟨i, hi, rfl, hbefore, rfl⟩
  (refine awp_reg_seq [0, 1, 7, 8, 9] fun K hK => ?_; (repeat' ((refine al_r rfl fun K' hK' => ?_); (repeat (simp only [go_sem, simprocAttr, List.length_map])); ((refine hK' _ _ ?_) <;> clear hK' K'))); all_goals (refine al_nil ?_; (simp only [go_sem, simprocAttr, List.length_map]); refine hK _ ?_; clear hK K))
  refine awp_seq_k fun K hK => ?_
  refine awp_if (decide ((i : Int) < ls.length)) rfl (fun hc => ?_) (fun hc => ?_)
  · refine awp_skip ?_
    refine hK _ ?_; clear hK K
    have hi2 : i < ls.length := by simpa using hc
    obtain ⟨n, hget⟩ : ∃ n, ls[i]? = some n := ⟨_, List.getElem?_eq_getElem hi2⟩
    have hnn : (0 : Int) ≤ (i : Int) := Int.natCast_nonneg i

    refine awp_seq_k fun K hK => ?_
    refine awp_block ?_
    (refine awp_reg_seq [0, 1, 5, 7, 8] fun K hK => ?_; (repeat' ((refine al_r rfl fun K' hK' => ?_); (repeat (simp only [go_sem, simprocAttr, hget, hnn, List.getElem?_map, Int.toNat_natCast, Option.map_some, List.length_map])); ((refine hK' _ _ ?_) <;> clear hK' K'))); all_goals (refine al_nil ?_; (simp only [go_sem, simprocAttr, hget, hnn, List.getElem?_map, Int.toNat_natCast, Option.map_some, List.length_map]); refine hK _ ?_; clear hK K))
    refine awp_reg_seq [0, 1, 5, 7, 8, 16] fun K hK => ?_
    repeat' ((refine al_r rfl fun K' hK' => ?_); (repeat (simp only [go_sem, simprocAttr, hget, hnn, List.getElem?_map, Int.toNat_natCast, Option.map_some, List.length_map])); ((refine hK' _ _ ?_) <;> clear hK' K'))
    · refine al_run rfl rfl (by decide) fun K' hK' => ?_
      simp only [go_sem, simprocAttr, hget, hnn, List.getElem?_map, Int.toNat_natCast, Option.map_some, List.length_map]
      refine acall_o ids hcf (h n (List.mem_of_getElem? hget)) (by simpa [D.map, D.mapL, ren1] using hcap) hob hm hd hlt hl rfl (hK' _ _ ?_)
      clear hK' K'
      (refine al_nil ?_; (simp only [go_sem, simprocAttr, hget, hnn, List.getElem?_map, Int.toNat_natCast, Option.map_some, List.length_map]); refine hK _ ?_; clear hK K)
      refine awp_if (p n) rfl (fun hc => ?_) (fun hc => ?_)
      · (refine awp_reg_seq [4] fun K hK => ?_; (repeat' ((refine al_r rfl fun K' hK' => ?_); (repeat (simp only [go_sem, simprocAttr, hget, hnn, List.getElem?_map, Int.toNat_natCast, Option.map_some, List.length_map])); ((refine hK' _ _ ?_) <;> clear hK' K'))); all_goals (refine al_nil ?_; (simp only [go_sem, simprocAttr, hget, hnn, List.getElem?_map, Int.toNat_natCast, Option.map_some, List.length_map]); refine hK _ ?_; clear hK K))
        refine awp_ret ?_; (refine hR _ _ (.inl rfl) rfl ?_ ?_)
        · simp only [go_sem, simprocAttr, hget, hnn, List.getElem?_map, Int.toNat_natCast, Option.map_some, List.length_map]
          rw [firstAt_at hbefore hget hc]
        · exact hob
      · have hpn := hc
        refine awp_skip ?_
        refine hK _ ?_; clear hK K
        (refine awp_reg_end [0, 1, 7, 8] fun K hK => ?_; (repeat' ((refine al_r rfl fun K' hK' => ?_); (repeat (simp only [go_sem, simprocAttr, hget, hnn, List.getElem?_map, Int.toNat_natCast, Option.map_some, List.length_map])); ((refine hK' _ _ ?_) <;> clear hK' K'))); all_goals (refine al_nil ?_; (simp only [go_sem, simprocAttr, hget, hnn, List.getElem?_map, Int.toNat_natCast, Option.map_some, List.length_map]); refine hK _ ?_; clear hK K))
        refine ⟨_, ?_, i + 1, hi2, rfl, ?_, ?_⟩
        · omega
        · intro j hj y hy
          by_cases e : j = i
          · subst e; rw [hget] at hy; cases hy; exact hpn
          · exact hbefore j (by omega) y hy
        · rw [wrap_next hi2 hlen]

  · refine awp_exit ?_
    clear hK
    refine hK _ ?_; clear hK K
    have hi2 : i = ls.length := by simp at hc; omega
    (refine awp_reg_seq [4] fun K hK => ?_; (repeat' ((refine al_r rfl fun K' hK' => ?_); (repeat (simp only [go_sem, simprocAttr, List.length_map])); ((refine hK' _ _ ?_) <;> clear hK' K'))); all_goals (refine al_nil ?_; (simp only [go_sem, simprocAttr, List.length_map]); refine hK _ ?_; clear hK K))
    refine awp_ret ?_; (refine hR _ _ (.inl rfl) rfl ?_ ?_)
    · simp only [go_sem, simprocAttr, List.length_map]
      rw [firstAt_none fun j y hy => hbefore j (by
        rcases Nat.lt_or_ge j ls.length with h' | h'
        · omega
        · simp [List.getElem?_eq_none h'] at hy) y hy]
    · exact hob




theorem badE (e : Int) : ACallP Try.prog 55 [iD e] (bD (e != 0)) := by
  refine acallp_fn [2] Try.func55 rfl rfl Try.ntmps55 (by simp) fun R hR => ?_
  (refine awp_reg_seq [0] fun K hK => ?_; (repeat' ((refine al_r rfl fun K' hK' => ?_); (repeat (simp only [go_sem, simprocAttr])); ((refine hK' _ _ ?_) <;> clear hK' K'))); all_goals (refine al_nil ?_; (simp only [go_sem, simprocAttr]); refine hK _ ?_; clear hK K))
  (refine awp_reg_seq [2] fun K hK => ?_; (repeat' ((refine al_r rfl fun K' hK' => ?_); (repeat (simp only [go_sem, simprocAttr])); ((refine hK' _ _ ?_) <;> clear hK' K'))); all_goals (refine al_nil ?_; (simp only [go_sem, simprocAttr]); refine hK _ ?_; clear hK K))
  all_goals (refine awp_ret ?_; (refine hR _ _ (.inl rfl) rfl ?_); (simp only [go_sem, simprocAttr, *, Bool.and_true, Bool.and_false, Bool.true_and, Bool.false_and, Bool.or_true, Bool.true_or, Bool.or_false, Bool.false_or, Bool.not_true, Bool.not_false, Bool.false_eq_true]; done))


theorem anyE (ns : List Int) (hlen : ns.length ≤ maxLen) : ACallP Try.prog 54 [ints ns, .fn 55 []] (bD (ns.any fun e => e != 0)) := by
  have hix := (indexE ns hlen 55 [] (fun e => e != 0) [] [] (by simp) (by simp) (by simp) rfl rfl rfl (by simp) (by simp) Try.call55 fun n _ => (badE n).o).p
  have hn := firstAt_nonneg (p := fun e : Int => e != 0) (l := ns)
  rw [← hn]
  refine acallp_fn [4] Try.func54 rfl rfl Try.ntmps54 (by simp) fun R hR => ?_
  (refine awp_reg_seq [0, 1] fun K hK => ?_; (repeat' ((refine al_r rfl fun K' hK' => ?_); (repeat (simp only [go_sem, simprocAttr])); ((refine hK' _ _ ?_) <;> clear hK' K'))); all_goals (refine al_nil ?_; (simp only [go_sem, simprocAttr]); refine hK _ ?_; clear hK K))
  (refine awp_reg_seq [4] fun K hK => ?_; (repeat' ((refine al_r rfl fun K' hK' => ?_); (repeat (simp only [go_sem, simprocAttr])); (first | ((refine hK' _ _ ?_) <;> clear hK' K') | ((show AC _ _ (D.fn 79 _) _ _); refine acall_p (f := 79) (e := rfl) (hr := rfl) (k := hK' _ _ ?_) (hc := Try.call79) (h := hix); clear hK' K')))); all_goals (refine al_nil ?_; (simp only [go_sem, simprocAttr]); refine hK _ ?_; clear hK K))
  all_goals (refine awp_ret ?_; (refine hR _ _ (.inl rfl) rfl ?_); (simp only [go_sem, simprocAttr, *, Bool.and_true, Bool.and_false, Bool.true_and, Bool.false_and, Bool.or_true, Bool.true_or, Bool.or_false, Bool.false_or, Bool.not_true, Bool.not_false, Bool.false_eq_true]; done))


theorem goodE (ns : List Int) (hlen : ns.length ≤ maxLen) : ACallP Try.prog 20 [ints ns] (bD (!(ns.any fun e => e != 0))) := by
  have han := anyE ns hlen
  refine acallp_fn [2] Try.func20 rfl rfl Try.ntmps20 (by simp) fun R hR => ?_
  (refine awp_reg_seq [0] fun K hK => ?_; (repeat' ((refine al_r rfl fun K' hK' => ?_); (repeat (simp only [go_sem, simprocAttr])); ((refine hK' _ _ ?_) <;> clear hK' K'))); all_goals (refine al_nil ?_; (simp only [go_sem, simprocAttr]); refine hK _ ?_; clear hK K))
  (refine awp_reg_seq [2] fun K hK => ?_; (repeat' ((refine al_r rfl fun K' hK' => ?_); (repeat (simp only [go_sem, simprocAttr])); (first | ((refine hK' _ _ ?_) <;> clear hK' K') | ((show AC _ _ (D.fn 54 _) _ _); refine acall_p (f := 54) (e := rfl) (hr := rfl) (k := hK' _ _ ?_) (hc := Try.call54) (h := han); clear hK' K')))); all_goals (refine al_nil ?_; (simp only [go_sem, simprocAttr]); refine hK _ ?_; clear hK K))
  all_goals (refine awp_ret ?_; (refine hR _ _ (.inl rfl) rfl ?_); (simp only [go_sem, simprocAttr, *, Bool.and_true, Bool.and_false, Bool.true_and, Bool.false_and, Bool.or_true, Bool.true_or, Bool.or_false, Bool.false_or, Bool.not_true, Bool.not_false, Bool.false_eq_true]; done))

theorem wrap_ok (x : Int) : NumOk (IntKind.i64.wrap x) := by
  simp only [IntKind.wrap, IntKind.bits, IntKind.signed]
  simp
  constructor <;> omega

theorem at_num (h : List Int) (a : Int) : NumOk (atS h a).1.num := by
  have z : NumOk z0.num := ⟨by decide, by decide⟩
  have hO : ∀ (n m : Nat) (o : Obj), NumOk o.num → NumOk (atO h n o m).1.num := fun n m o ho => by
    unfold atO
    split
    · exact z
    · exact ho
  unfold atS
  split
  · exact z
  split
  · exact z
  split
  · exact z
  unfold atR
  split
  · exact hO _ _ _ (wrap_ok _)
  · exact hO _ _ _ z

theorem objF_nums {h : List Int} : ∀ (f a : Nat) (acc : List Obj), (∀ o, o ∈ acc → NumOk o.num) → ∀ o, o ∈ (objF h f a acc).1 → NumOk o.num
  | 0, _, _, ha, o, ho => ha o ho
  | f + 1, a, acc, ha, o, ho => by
    unfold objF at ho
    split at ho
    · split at ho
      · cases ho
      · refine objF_nums f _ _ (fun x hx => ?_) o ho
        rcases List.mem_append.1 hx with hx | hx
        · exact ha x hx
        · rw [List.mem_singleton.1 hx]; exact at_num h a
    · exact ha o ho

theorem chain_right {h : List Int} : ∀ {l : List Obj} {a : Nat}, Chain h a l → ∀ o, o ∈ l → rightS o = true
  | [], _, _, _, ho => by cases ho
  | x :: l, _, hc, o, ho => by
    obtain ⟨_, h1, _, _, h2⟩ := hc
    rcases List.mem_cons.1 ho with rfl | ho
    · exact h1
    · exact chain_right h2 o ho

theorem sum_lt (s : ByteArray) (i : Nat) : sumF s i 8 0 < 18446744073709551616 := by
  have b0 := byteV_lt s (i + 0)
  have b1 := byteV_lt s (i + 1)
  have b2 := byteV_lt s (i + 2)
  have b3 := byteV_lt s (i + 3)
  have b4 := byteV_lt s (i + 4)
  have b5 := byteV_lt s (i + 5)
  have b6 := byteV_lt s (i + 6)
  have b7 := byteV_lt s (i + 7)
  show byteV s (i + 0) * 2 ^ 0 + (byteV s (i + 1) * 2 ^ 8 + (byteV s (i + 2) * 2 ^ 16 + (byteV s (i + 3) * 2 ^ 24 + (byteV s (i + 4) * 2 ^ 32 + (byteV s (i + 5) * 2 ^ 40 + (byteV s (i + 6) * 2 ^ 48 + (byteV s (i + 7) * 2 ^ 56 + 0))))))) < _
  omega

theorem textF_ok (s : ByteArray) : ∀ (m i : Nat) (w : Int), w ∈ textF s m i → WordOk w
  | 0, _, _, h => by cases h
  | m + 1, i, w, h => by
    rcases List.mem_cons.1 h with rfl | h
    · rw [word_val]
      have := sum_lt s i
      exact ⟨Int.natCast_nonneg _, by omega⟩
    · exact textF_ok s m (i + 8) w h

theorem enc_ok {o : Obj} (hp : ∀ w, w ∈ o.parts → WordOk w) : ∀ w, w ∈ encW o → WordOk w := by
  intro w hw
  unfold encW at hw
  rcases List.mem_cons.1 hw with rfl | hw
  · exact bits_ok _ _ _
  · rcases List.mem_append.1 hw with hw | hw
    · unfold numW at hw
      split at hw
      · rw [List.mem_singleton.1 hw, IntKind.wrap_u64]
        exact ⟨by omega, by omega⟩
      · cases hw
    · rcases List.mem_append.1 hw with hw | hw
      · exact textF_ok _ _ _ w hw
      · exact hp w hw

theorem flat_ok : ∀ {L : List Obj}, (∀ o, o ∈ L → ∀ w, w ∈ o.parts → WordOk w) → ∀ w, w ∈ flat L → WordOk w
  | [], _, w, hw => by cases hw
  | o :: L, h, w, hw => by
    rcases List.mem_append.1 (show w ∈ encW o ++ flat L from hw) with hw | hw
    · exact enc_ok (h o List.mem_cons_self) w hw
    · exact flat_ok (fun x hx => h x (List.mem_cons_of_mem _ hx)) w hw

end Go.Proofs.Ytagphggcdmjlpaa.P

/- Words are read: contracts, and that they are read as they were told. -/
namespace Go.Proofs.Ytagphggcdmjlpaa.P
open Go.Ab Go.Proofs.Ytagphggcdmjlpaa.T

/-- What Read answers. -/
def readT (w : Int) : Int := IntKind.i64.wrap (w.tmod 8)
def readN0 (w : Int) : Int := IntKind.i64.wrap (w.fdiv (2 ^ min 3 64))
def readN1 (w : Int) : Int := (IntKind.i64.wrap w).fdiv (2 ^ min 3 64)
def readN (w : Int) : Int := if readT w = 1 then readN1 w else readN0 w

def readS (w : Int) : Int × Int × Int :=
  if (wordS (readT w) (readN w)).2 = 0 ∧ (wordS (readT w) (readN w)).1 = w then (readT w, readN w, 0) else (0, 0, 3)

theorem readW (w : Int) : ACallP Try.prog 62 [wD w] (.tup [iD (readS w).1, iD (readS w).2.1, iD (readS w).2.2]) := by
  obtain ⟨t, ht⟩ : ∃ t, t = readT w := ⟨_, rfl⟩
  obtain ⟨n, hn⟩ : ∃ n, n = readN w := ⟨_, rfl⟩
  have hw := word t n
  obtain ⟨x, hx⟩ : ∃ x, x = wordS t n := ⟨_, rfl⟩
  rw [← hx] at hw
  have hr : readS w = if x.2 = 0 ∧ x.1 = w then (t, n, 0) else (0, 0, 3) := by rw [hx, ht, hn]; rfl
  obtain ⟨x, e⟩ := x
  simp only at hw hr
  rw [hr]
  refine acallp_fn [2, 3, 4] Try.func62 rfl rfl Try.ntmps62 (by simp) fun R hR => ?_
  (refine awp_reg_seq [0] fun K hK => ?_; (repeat' ((refine al_r rfl fun K' hK' => ?_); (repeat (simp only [go_sem, simprocAttr])); ((refine hK' _ _ ?_) <;> clear hK' K'))); all_goals (refine al_nil ?_; (simp only [go_sem, simprocAttr]); refine hK _ ?_; clear hK K))
  (refine awp_reg_seq [0, 5, 6] fun K hK => ?_; (repeat' ((refine al_r rfl fun K' hK' => ?_); (repeat (simp only [go_sem, simprocAttr])); ((refine hK' _ _ ?_) <;> clear hK' K'))); all_goals (refine al_nil ?_; (simp only [go_sem, simprocAttr]); refine hK _ ?_; clear hK K))
  rw [show IntKind.i64.wrap (w.tmod 8) = t from ht.symm, show IntKind.i64.wrap (w.fdiv (2 ^ min 3 64)) = readN0 w from rfl]
  refine awp_seq_k fun K hK => ?_
  have key : ∀ d, K ⟨ofL [(0, wD w), (5, iD t), (6, iD n), (16, d)], [], 0⟩ := by
    intro d
    refine hK _ ?_; clear hK K
    refine awp_seq_k fun K hK => ?_
    (refine awp_reg_seq [0, 5, 6, 7, 8] fun K hK => ?_; (repeat' ((refine al_r rfl fun K' hK' => ?_); (repeat (simp only [go_sem, simprocAttr])); (first | ((refine hK' _ _ ?_) <;> clear hK' K') | ((show AC _ _ (D.fn 57 _) _ _); refine acall_p (f := 57) (e := rfl) (hr := rfl) (k := hK' _ _ ?_) (hc := Try.call57) (h := hw); clear hK' K')))); all_goals (refine al_nil ?_; (simp only [go_sem, simprocAttr]); refine hK _ ?_; clear hK K))
    refine awp_reg_to [5, 6, 32] (k := ?_) (h := ?_) (s1 := ⟨ofL [(5, iD t), (6, iD n), (32, bD (e != 0 || x != w))], [], 0⟩); · ((repeat' (first | ((first | refine al_r rfl fun K' hK' => ?_ | refine al_t rfl rfl fun K' hK' => ?_); (repeat (simp only [go_sem, simprocAttr])); ((refine hK' _ _ ?_) <;> clear hK' K')) | refine al_e rfl rfl ?_ | ((fail_if_success (refine al_t rfl rfl fun K' hK' => ?_)); refine al_s _ rfl rfl rfl (fun hb => ?_) (fun hb => ?_)))); all_goals (refine al_nil ?_; simp only [go_sem, simprocAttr, *, Bool.and_true, Bool.and_false, Bool.true_and, Bool.false_and, Bool.or_true, Bool.true_or, Bool.or_false, Bool.false_or, Bool.not_true, Bool.not_false, Bool.false_eq_true]))
    refine awp_if (_) rfl (fun hc => ?_) (fun hc => ?_)
    · (refine awp_reg_seq [2, 3, 4] fun K hK => ?_; (repeat' ((refine al_r rfl fun K' hK' => ?_); (repeat (simp only [go_sem, simprocAttr])); ((refine hK' _ _ ?_) <;> clear hK' K'))); all_goals (refine al_nil ?_; (simp only [go_sem, simprocAttr]); refine hK _ ?_; clear hK K))
      refine awp_ret ?_; (refine hR _ _ (.inl rfl) rfl ?_)
      have : ¬ (e = 0 ∧ x = w) := by simp only [Bool.or_eq_true, bne_iff_ne] at hc; omega
      rw [if_neg this]
      simp only [go_sem, simprocAttr]
    · refine awp_skip ?_
      refine hK _ ?_; clear hK K
      (refine awp_reg_seq [2, 3, 4] fun K hK => ?_; (repeat' ((refine al_r rfl fun K' hK' => ?_); (repeat (simp only [go_sem, simprocAttr])); ((refine hK' _ _ ?_) <;> clear hK' K'))); all_goals (refine al_nil ?_; (simp only [go_sem, simprocAttr]); refine hK _ ?_; clear hK K))
      refine awp_ret ?_; (refine hR _ _ (.inl rfl) rfl ?_)
      have : e = 0 ∧ x = w := by simpa using hc
      rw [if_pos this]
      simp only [go_sem, simprocAttr]
  clear hK
  (refine awp_reg_seq [0, 5, 6, 16] fun K hK => ?_; (repeat' ((refine al_r rfl fun K' hK' => ?_); (repeat (simp only [go_sem, simprocAttr])); ((refine hK' _ _ ?_) <;> clear hK' K'))); all_goals (refine al_nil ?_; (simp only [go_sem, simprocAttr]); refine hK _ ?_; clear hK K))
  refine awp_if (_) rfl (fun hc => ?_) (fun hc => ?_)
  · have h1 : readT w = 1 := by rw [← ht]; simpa using hc
    (refine awp_reg_end [0, 5, 6, 16] fun K hK => ?_; (repeat' ((refine al_r rfl fun K' hK' => ?_); (repeat (simp only [go_sem, simprocAttr])); ((refine hK' _ _ ?_) <;> clear hK' K'))); all_goals (refine al_nil ?_; (simp only [go_sem, simprocAttr]); refine hK _ ?_; clear hK K))
    have : (IntKind.i64.wrap w).fdiv (2 ^ min 3 64) = n := by rw [hn, readN, if_pos h1]; rfl
    rw [this]
    exact key _
  · have h1 : ¬ readT w = 1 := by rw [← ht]; simpa using hc
    refine awp_skip ?_
    have : readN0 w = n := by rw [hn, readN, if_neg h1]
    rw [this]
    exact key _
/-- The kinds by tags. -/
def kindOf (t : Int) : Int := if t = 0 then 1 else if t = 1 then 2 else if t = 2 then 3 else 6

/-- What Value answers. -/
def valueS (w : Int) : Int × Int × Bool := if (readS w).2.2 != 0 || (readS w).1 == 4 then (0, 0, false) else (kindOf (readS w).1, (readS w).2.1, true)

theorem readS_range (w : Int) (h : (readS w).2.2 = 0) : 0 ≤ (readS w).1 ∧ (readS w).1 ≤ 4 := by
  unfold readS at h ⊢
  split at h
  · rename_i hc
    rw [if_pos hc]
    have := hc.1
    unfold wordS at this
    split at this
    · rename_i hf
      simp [fits] at hf
      show 0 ≤ readT w ∧ readT w ≤ 4
      omega
    · split at this <;> simp at this
  · simp at h

theorem valueW (w : Int) : ACallP Try.prog 81 [wD w] (.tup [.agg [iD (valueS w).1, iD (valueS w).2.1, .p (.lit (.string ByteArray.empty)), .p (.sl [])], bD (valueS w).2.2]) := by
  have hw := readW w
  have hv : valueS w = if (readS w).2.2 != 0 || (readS w).1 == 4 then (0, 0, false) else (kindOf (readS w).1, (readS w).2.1, true) := rfl
  have hrg := readS_range w
  generalize readS w = x at hw hv hrg
  obtain ⟨t, n, e⟩ := x
  simp only at hw hv hrg
  rw [hv]
  refine acallp_fnv [.cell 2 38, .tmp 3] Try.func81 rfl rfl Try.ntmps81 (by simp) fun R hR => ?_
  (refine awp_reg_seq [0, 2] fun K hK => ?_; (repeat' ((refine al_r rfl fun K' hK' => ?_); (repeat (simp only [go_sem, simprocAttr])); ((refine hK' _ _ ?_) <;> clear hK' K'))); all_goals (refine al_nil ?_; (simp only [go_sem, simprocAttr]); refine hK _ ?_; clear hK K))
  (refine awp_reg_seq [2, 4, 5, 6] fun K hK => ?_; (repeat' ((refine al_r rfl fun K' hK' => ?_); (repeat (simp only [go_sem, simprocAttr])); (first | ((refine hK' _ _ ?_) <;> clear hK' K') | ((show AC _ _ (D.fn 62 _) _ _); refine acall_p (f := 62) (e := rfl) (hr := rfl) (k := hK' _ _ ?_) (hc := Try.call62) (h := hw); clear hK' K')))); all_goals (refine al_nil ?_; (simp only [go_sem, simprocAttr]); refine hK _ ?_; clear hK K))
  refine awp_seq_k fun K hK => ?_
  refine awp_reg_to [2, 4, 5, 18] (k := ?_) (h := ?_) (s1 := ⟨ofL [(2, .ptr 0 0 0), (4, iD t), (5, iD n), (18, bD (e != 0 || t == 4))], [.box [iD 0, iD 0, .p (.lit (.string ByteArray.empty)), .nil]], 0⟩); · ((repeat' (first | ((first | refine al_r rfl fun K' hK' => ?_ | refine al_t rfl rfl fun K' hK' => ?_); (repeat (simp only [go_sem, simprocAttr])); ((refine hK' _ _ ?_) <;> clear hK' K')) | refine al_e rfl rfl ?_ | ((fail_if_success (refine al_t rfl rfl fun K' hK' => ?_)); refine al_s _ rfl rfl rfl (fun hb => ?_) (fun hb => ?_)))); all_goals (refine al_nil ?_; simp only [go_sem, simprocAttr, *, Bool.and_true, Bool.and_false, Bool.true_and, Bool.false_and, Bool.or_true, Bool.true_or, Bool.or_false, Bool.false_or, Bool.not_true, Bool.not_false, Bool.false_eq_true]))
  refine awp_if (_) rfl (fun hc => ?_) (fun hc => ?_)
  · (refine awp_reg_seq [2, 3] fun K hK => ?_; (repeat' ((first | refine al_r rfl fun K' hK' => ?_ | refine al_d rfl fun K' hK' => ?_); (repeat (first | (simp only [go_sem, simprocAttr]) | refine AS.mk ?_)); ((first | refine hK' _ _ ?_ | refine ⟨?_, hK' _ _ ?_⟩) <;> clear hK' K' <;> (first | (show alist _ _ _ _ _ _; skip) | (simp; done))))); all_goals (refine al_nil ?_; (simp only [go_sem, simprocAttr]); refine hK _ ?_; clear hK K))
    refine awp_ret ?_; refine hR _ _ (.inl rfl) rfl ?_
    simp only [hc, go_sem, simprocAttr]
  · refine awp_skip ?_
    refine hK _ ?_; clear hK K
    have he : e = 0 ∧ t ≠ 4 := by simpa using hc
    have h0 : 0 ≤ t ∧ t ≤ 4 := hrg he.1
    have h1 : 0 ≤ t := h0.1
    have h2 : t < 4 := by omega
    have hcs : ([.p (.lit (.int .i64 1)), .p (.lit (.int .i64 2)), .p (.lit (.int .i64 3)), .p (.lit (.int .i64 6))] : List D)[t.toNat]? = some (iD (kindOf t)) := by
      have : t = 0 ∨ t = 1 ∨ t = 2 ∨ t = 3 := by omega
      rcases this with rfl | rfl | rfl | rfl <;> rfl

    refine awp_reg_seq [2, 3] fun K hK => ?_
    repeat' ((first | refine al_r rfl fun K' hK' => ?_ | refine al_d rfl fun K' hK' => ?_); (repeat (first | (simp only [go_sem, simprocAttr, hcs, h1, h2, Nat.mul_one, Int.ofNat_eq_natCast, Int.cast_ofNat_Int]) | refine AS.mk ?_)); ((first | refine hK' _ _ ?_ | refine ⟨?_, hK' _ _ ?_⟩) <;> clear hK' K' <;> (first | (show alist _ _ _ _ _ _; skip) | (simp; done))))
    (refine al_nil ?_; (simp only [go_sem, simprocAttr, hcs, h1, h2, Nat.mul_one, Int.ofNat_eq_natCast, Int.cast_ofNat_Int]); refine hK _ ?_; clear hK K)
    refine awp_ret ?_; refine hR _ _ (.inl rfl) rfl ?_
    simp only [hc, go_sem, simprocAttr, hcs, h1, h2, Nat.mul_one, Int.ofNat_eq_natCast, Int.cast_ofNat_Int, Bool.false_eq_true]



open Go.RowKit

theorem fits_lt {t n : Int} (h : fits t n = true) : 0 ≤ t ∧ t ≤ 4 ∧ -1152921504606846976 ≤ n ∧ n < 1152921504606846976 ∧ (t ≠ 1 → 0 ≤ n) := by
  simp [fits] at h
  omega

theorem wrapU (n : Int) : IntKind.u64.wrap n = n % 18446744073709551616 := by simp [IntKind.wrap, IntKind.bits, IntKind.signed]

/-- Eight times a number, joined with less than eight: the sum. -/
theorem wordOf_eq {t n : Int} (h0 : 0 ≤ t) (h1 : t < 8) : wordOf t n = (n * 8) % 18446744073709551616 + t := by
  unfold wordOf
  rw [wrapU, wrapU, wrapU]
  have e : n % 18446744073709551616 * 8 % 18446744073709551616 = n * 8 % 18446744073709551616 := by omega
  rw [e, show t % 18446744073709551616 = t by omega]
  have := bits_join .u64 64 (by decide) (fun n h0 h1 => by rw [wrapU]; omega) 3 (n * 8 % 18446744073709551616) t
  exact this (by omega) (by omega) (by omega) h0 (by omega) (by omega)

theorem wordS_snd (t n : Int) : (wordS t n).2 = 0 ↔ fits t n = true := by
  unfold wordS; split
  · simp [*]
  · split <;> simp [*]

theorem wordS_fst {t n : Int} (h : fits t n = true) : (wordS t n).1 = (n * 8) % 18446744073709551616 + t := by
  have a := fits_lt h
  unfold wordS; rw [if_pos h]; exact wordOf_eq (by omega) (by omega)

theorem wrapI (n : Int) : IntKind.i64.wrap n = (n + 9223372036854775808) % 18446744073709551616 - 9223372036854775808 := by
  simp only [IntKind.wrap, IntKind.bits, IntKind.signed]
  simp
  omega

theorem p8 : ((2 : Int) ^ min 3 64) = 8 := by decide

/-- A word is read as it was told. -/
theorem read_word {t n : Int} (h : fits t n = true) : readS (wordS t n).1 = (t, n, 0) := by
  have hl := fits_lt h
  have e := wordS_fst h
  have h0 : 0 ≤ (wordS t n).1 := by rw [e]; omega
  have ht : readT (wordS t n).1 = t := by
    unfold readT
    rw [Int.tmod_eq_emod_of_nonneg h0, wrapI, e]
    omega
  have hn : readN (wordS t n).1 = n := by
    unfold readN
    rw [ht]
    by_cases h1 : t = 1
    · rw [if_pos h1]
      unfold readN1
      rw [p8, wrapI, Int.fdiv_eq_ediv_of_nonneg _ (by omega), e]
      omega
    · rw [if_neg h1]
      unfold readN0
      rw [p8, wrapI, Int.fdiv_eq_ediv_of_nonneg _ (by omega), e]
      have := hl.2.2.2.2 h1
      omega
  unfold readS
  rw [ht, hn, if_pos ⟨(wordS_snd t n).2 h, rfl⟩]

def kindsS (k : Int) : Int := if k = 1 then 2 else if k = 2 then 4 else if k = 3 then 5 else if k = 4 then 7 else 8

theorem kinds (k : Int) (h1 : 1 ≤ k) (h5 : k ≤ 5) : ACallP Try.prog 82 [iD k] (iD (kindsS k)) := by
  have h0 : 0 ≤ k := by omega
  have h6 : k < 6 := by omega
  have hcs : ([iD 0, .p (.lit (.int .i64 2)), .p (.lit (.int .i64 4)), .p (.lit (.int .i64 5)), .p (.lit (.int .i64 7)), .p (.lit (.int .i64 8))] : List D)[k.toNat]? = some (iD (kindsS k)) := by
    have : k = 1 ∨ k = 2 ∨ k = 3 ∨ k = 4 ∨ k = 5 := by omega
    rcases this with rfl | rfl | rfl | rfl | rfl <;> rfl
  refine acallp_fn [2] Try.func82 rfl rfl Try.ntmps82 (by simp) fun R hR => ?_
  (refine awp_reg_seq [0] fun K hK => ?_; (repeat' ((refine al_r rfl fun K' hK' => ?_); (repeat (simp only [go_sem, simprocAttr])); ((refine hK' _ _ ?_) <;> clear hK' K'))); all_goals (refine al_nil ?_; (simp only [go_sem, simprocAttr]); refine hK _ ?_; clear hK K))

  (refine awp_reg_seq [2] fun K hK => ?_; (repeat' ((refine al_r rfl fun K' hK' => ?_); (repeat (simp only [go_sem, simprocAttr, hcs, h0, h6, Nat.mul_one, Int.ofNat_eq_natCast, Int.cast_ofNat_Int])); ((refine hK' _ _ ?_) <;> clear hK' K'))); all_goals (refine al_nil ?_; (simp only [go_sem, simprocAttr, hcs, h0, h6, Nat.mul_one, Int.ofNat_eq_natCast, Int.cast_ofNat_Int]); refine hK _ ?_; clear hK K))
  all_goals (refine awp_ret ?_; (refine hR _ _ (.inl rfl) rfl ?_); (simp only [go_sem, simprocAttr, hcs, h0, h6, Nat.mul_one, Int.ofNat_eq_natCast, Int.cast_ofNat_Int, *, Bool.and_true, Bool.and_false, Bool.true_and, Bool.false_and, Bool.or_true, Bool.true_or, Bool.or_false, Bool.false_or, Bool.not_true, Bool.not_false, Bool.false_eq_true]; done))
end Go.Proofs.Ytagphggcdmjlpaa.P

/- Places that words name; are numbers contained: contracts. -/
namespace Go.Proofs.Ytagphggcdmjlpaa.P
open Go.Ab Go.Proofs.Ytagphggcdmjlpaa.T

/-- What place answers. -/
def placeS (w : Int) : Int × Bool × Int := ((readS w).2.1, (readS w).2.2 == 0 && (readS w).1 == 4, (readS w).2.2)


theorem indexI (ls : List Int) (hlen : ls.length ≤ maxLen) (v : Int) : ACallP Try.prog 65 [ints ls, iD v] (iD (firstAt (fun n => v == n) ls)) := by
  refine acallp_fn [4] Try.func65 rfl rfl Try.ntmps65 (by simp) fun R hR => ?_
  (refine awp_reg_seq [0, 1] fun K hK => ?_; (repeat' ((refine al_r rfl fun K' hK' => ?_); (repeat (simp only [go_sem, simprocAttr, List.length_map])); ((refine hK' _ _ ?_) <;> clear hK' K'))); all_goals (refine al_nil ?_; (simp only [go_sem, simprocAttr, List.length_map]); refine hK _ ?_; clear hK K))
  refine awp_seq_k fun K hK => ?_
  (refine awp_reg_seq [0, 1, 7, 8] fun K hK => ?_; (repeat' ((refine al_r rfl fun K' hK' => ?_); (repeat (simp only [go_sem, simprocAttr, List.length_map])); ((first | refine hK' _ _ ?_ | refine ⟨?_, hK' _ _ ?_⟩) <;> clear hK' K' <;> (first | (show alist _ _ _ _ _ _; skip) | (intro s hs; cases hs; done))))); all_goals (refine al_nil ?_; (simp only [go_sem, simprocAttr, List.length_map]); refine hK _ ?_; clear hK K))
  refine awp_block ?_
  -- loop 0 head [0, 1, 7, 8]
  refine awp_loop (fun m s => ∃ i : Nat, i ≤ ls.length ∧ m = ls.length - i ∧ (∀ (j : Nat) y, j < i → ls[j]? = some y → (v == y) = false) ∧ s = ⟨ofL [(0, ints ls), (1, iD v), (7, iD ls.length), (8, iD i)], [], 0⟩) ⟨_, 0, Nat.zero_le _, rfl, fun j _ hj => absurd hj (by omega), rfl⟩ ?_
  rintro m s ⟨i, hi, rfl, hbefore, rfl⟩
  (refine awp_reg_seq [0, 1, 7, 8, 9] fun K hK => ?_; (repeat' ((refine al_r rfl fun K' hK' => ?_); (repeat (simp only [go_sem, simprocAttr, List.length_map])); ((refine hK' _ _ ?_) <;> clear hK' K'))); all_goals (refine al_nil ?_; (simp only [go_sem, simprocAttr, List.length_map]); refine hK _ ?_; clear hK K))
  refine awp_seq_k fun K hK => ?_
  refine awp_if (decide ((i : Int) < ls.length)) rfl (fun hc => ?_) (fun hc => ?_)
  · refine awp_skip ?_
    refine hK _ ?_; clear hK K
    refine awp_seq_k fun K hK => ?_
    refine awp_block ?_
    have hi2 : i < ls.length := by simpa using hc
    obtain ⟨x, hx⟩ := get_of_lt hi2
    have hnn : (0 : Int) ≤ (i : Int) := Int.natCast_nonneg i
    have hnx : IntKind.i64.wrap ((i : Int) + 1) = ((i + 1 : Nat) : Int) := wrap_next hi2 hlen

    (refine awp_reg_seq [0, 1, 5, 7, 8] fun K hK => ?_; (repeat' ((refine al_r rfl fun K' hK' => ?_); (repeat (simp only [go_sem, simprocAttr, List.length_map, hx, hnn, hi2, Int.toNat_natCast, List.getElem?_map, Option.map_some, hnx])); ((refine hK' _ _ ?_) <;> clear hK' K'))); all_goals (refine al_nil ?_; (simp only [go_sem, simprocAttr, List.length_map, hx, hnn, hi2, Int.toNat_natCast, List.getElem?_map, Option.map_some, hnx]); refine hK _ ?_; clear hK K))
    (refine awp_reg_seq [0, 1, 5, 7, 8, 16] fun K hK => ?_; (repeat' ((refine al_r rfl fun K' hK' => ?_); (repeat (simp only [go_sem, simprocAttr, List.length_map, hx, hnn, hi2, Int.toNat_natCast, List.getElem?_map, Option.map_some, hnx])); ((refine hK' _ _ ?_) <;> clear hK' K'))); all_goals (refine al_nil ?_; (simp only [go_sem, simprocAttr, List.length_map, hx, hnn, hi2, Int.toNat_natCast, List.getElem?_map, Option.map_some, hnx]); refine hK _ ?_; clear hK K))
    refine awp_if (v == x) rfl (fun hc => ?_) (fun hc => ?_)
    · rw [firstAt_at (fun j hj y hy => hbefore j y hj hy) hx hc] at hR
      (refine awp_reg_seq [4] fun K hK => ?_; (repeat' ((refine al_r rfl fun K' hK' => ?_); (repeat (simp only [go_sem, simprocAttr, List.length_map, hx, hnn, hi2, Int.toNat_natCast, List.getElem?_map, Option.map_some, hnx])); ((refine hK' _ _ ?_) <;> clear hK' K'))); all_goals (refine al_nil ?_; (simp only [go_sem, simprocAttr, List.length_map, hx, hnn, hi2, Int.toNat_natCast, List.getElem?_map, Option.map_some, hnx]); refine hK _ ?_; clear hK K))
      all_goals (refine awp_ret ?_; (refine hR _ _ (.inl rfl) rfl ?_); (simp only [go_sem, simprocAttr, List.length_map, hx, hnn, hi2, Int.toNat_natCast, List.getElem?_map, Option.map_some, hnx, *, Bool.and_true, Bool.and_false, Bool.true_and, Bool.false_and, Bool.or_true, Bool.true_or, Bool.or_false, Bool.false_or, Bool.not_true, Bool.not_false, Bool.false_eq_true]; done))
    · have hne := hc
      refine awp_skip ?_
      refine hK _ ?_; clear hK K
      (refine awp_reg_end [0, 1, 7, 8] fun K hK => ?_; (repeat' ((refine al_r rfl fun K' hK' => ?_); (repeat (simp only [go_sem, simprocAttr, List.length_map, hx, hnn, hi2, Int.toNat_natCast, List.getElem?_map, Option.map_some, hnx])); ((refine hK' _ _ ?_) <;> clear hK' K'))); all_goals (refine al_nil ?_; (simp only [go_sem, simprocAttr, List.length_map, hx, hnn, hi2, Int.toNat_natCast, List.getElem?_map, Option.map_some, hnx]); refine hK _ ?_; clear hK K))
      refine ⟨_, ?_, i + 1, hi2, rfl, fun j y hj hy => ?_, ?_⟩
      · omega
      · rcases Nat.lt_succ_iff_lt_or_eq.1 hj with h | rfl
        · exact hbefore j y h hy
        · rw [hx] at hy; cases hy; exact hne
      · rfl

  · refine awp_exit ?_
    have hie : i = ls.length := by simp at hc; omega
    rw [firstAt_none (fun j y hy => hbefore j y (by rw [hie]; exact lt_of_get hy) hy)] at hR
    clear hK
    refine hK _ ?_; clear hK K
    (refine awp_reg_seq [4] fun K hK => ?_; (repeat' ((refine al_r rfl fun K' hK' => ?_); (repeat (simp only [go_sem, simprocAttr, List.length_map])); ((refine hK' _ _ ?_) <;> clear hK' K'))); all_goals (refine al_nil ?_; (simp only [go_sem, simprocAttr, List.length_map]); refine hK _ ?_; clear hK K))
    all_goals (refine awp_ret ?_; (refine hR _ _ (.inl rfl) rfl ?_); (simp only [go_sem, simprocAttr, List.length_map, *, Bool.and_true, Bool.and_false, Bool.true_and, Bool.false_and, Bool.or_true, Bool.true_or, Bool.or_false, Bool.false_or, Bool.not_true, Bool.not_false, Bool.false_eq_true]; done))


theorem contains (ls : List Int) (hlen : ls.length ≤ maxLen) (v : Int) : ACallP Try.prog 32 [ints ls, iD v] (bD (decide (firstAt (fun n => v == n) ls ≥ 0))) := by
  have hix := indexI ls hlen v
  refine acallp_fn [4] Try.func32 rfl rfl Try.ntmps32 (by simp) fun R hR => ?_
  (refine awp_reg_seq [0, 1] fun K hK => ?_; (repeat' ((refine al_r rfl fun K' hK' => ?_); (repeat (simp only [go_sem, simprocAttr])); ((refine hK' _ _ ?_) <;> clear hK' K'))); all_goals (refine al_nil ?_; (simp only [go_sem, simprocAttr]); refine hK _ ?_; clear hK K))
  (refine awp_reg_seq [4] fun K hK => ?_; (repeat' ((refine al_r rfl fun K' hK' => ?_); (repeat (simp only [go_sem, simprocAttr])); (first | ((refine hK' _ _ ?_) <;> clear hK' K') | ((show AC _ _ (D.fn 65 _) _ _); refine acall_p (f := 65) (e := rfl) (hr := rfl) (k := hK' _ _ ?_) (hc := Try.call65) (h := hix); clear hK' K')))); all_goals (refine al_nil ?_; (simp only [go_sem, simprocAttr]); refine hK _ ?_; clear hK K))
  all_goals (refine awp_ret ?_; (refine hR _ _ (.inl rfl) rfl ?_); (simp only [go_sem, simprocAttr, *, Bool.and_true, Bool.and_false, Bool.true_and, Bool.false_and, Bool.or_true, Bool.true_or, Bool.or_false, Bool.false_or, Bool.not_true, Bool.not_false, Bool.false_eq_true]; done))

end Go.Proofs.Ytagphggcdmjlpaa.P

/- A cell is set: a contract. -/
namespace Go.Proofs.Ytagphggcdmjlpaa.P
open Go.Ab Go.Proofs.Ytagphggcdmjlpaa.T

theorem awp_suff {P : Program} {nt : Nat} {x y : Code} {Q : Exit → St → Prop} {st : St} (s1 : St) (h1 : AWp P nt y Q s1) (h2 : AWp P nt y Q s1 → AWp P nt (.seq x y) Q st) : AWp P nt (.seq x y) Q st := h2 h1

end Go.Proofs.Ytagphggcdmjlpaa.P

/- Put, its answer an own row: a contract. -/
namespace Go.Proofs.Ytagphggcdmjlpaa.P
open Go.Ab Go.Proofs.Ytagphggcdmjlpaa.T


theorem putO (h : List Int) (o : Obj) (hlen : h.length ≤ maxLen) (hg : (putS h o).2.2 = 0) : ACalls Try.prog 17 [words h, objD o] [] (fun r obs' => r = .tup [.ref 0 0 (putS h o).1.length, iD h.length, iD 0] ∧ obs' = [.row 1 ((putS h o).1.map wrow)]) := by
  have hri := right o
  have hhe := head o
  have hsm := right_small (o := o)
  obtain ⟨R0, hR0⟩ : ∃ R0, R0 = putS h o := ⟨_, rfl⟩
  have hv : R0 = if !rightS o then ([], 0, 1) else if decide ((h.length : Int) > 4000 - (roomN o.kind o.text.size o.parts.length : Int)) then ([], 0, 6) else (h ++ encW o, (h.length : Int), 0) := hR0
  rw [← hR0] at hg ⊢
  clear hR0
  have hel := enc_len o
  generalize rightS o = r at hri hsm hv
  refine acallm_fn [4, 5, 6] Try.func17 rfl rfl Try.ntmps17 (by simp) (by simp) fun R hR => ?_
  (refine awp_reg_seq [0, 3] fun K hK => ?_; (repeat' ((refine al_r rfl fun K' hK' => ?_); (repeat (simp only [go_sem, simprocAttr, List.length_map])); ((refine hK' _ _ ?_) <;> clear hK' K'))); all_goals (refine al_nil ?_; (simp only [go_sem, simprocAttr, List.length_map]); refine hK _ ?_; clear hK K))
  (refine awp_frz [0, 3] [] (by decide) (by (simp; done)) ?_; simp only [go_sem, simprocAttr, List.length_map])
  refine awp_seq_k fun K hK => ?_
  refine awp_block ?_
  (refine awp_reg_seq [0, 3, 11] fun K hK => ?_; (repeat' ((refine al_r rfl fun K' hK' => ?_); (repeat (simp only [go_sem, simprocAttr, List.length_map])); (first | ((refine hK' _ _ ?_) <;> clear hK' K') | ((show AC _ _ (D.fn 52 _) _ _); refine acall_p (f := 52) (e := rfl) (hr := rfl) (k := hK' _ _ ?_) (hc := Try.call52) (h := hri); clear hK' K')))); all_goals (refine al_nil ?_; (simp only [go_sem, simprocAttr, List.length_map]); refine hK _ ?_; clear hK K))
  refine awp_if (_) rfl (fun hc => ?_) (fun hc => ?_)
  · (refine awp_reg_seq [4, 5, 6] fun K hK => ?_; (repeat' ((refine al_r rfl fun K' hK' => ?_); (repeat (simp only [go_sem, simprocAttr, List.length_map])); ((refine hK' _ _ ?_) <;> clear hK' K'))); all_goals (refine al_nil ?_; (simp only [go_sem, simprocAttr, List.length_map]); refine hK _ ?_; clear hK K))
    exfalso
    rw [if_pos hc] at hv
    rw [hv] at hg
    cases hg
  · rw [if_neg (by rw [hc]; simp)] at hv
    obtain ⟨hs64, hp400⟩ := hsm (by simpa using hc)
    have hro := room o.kind o.text.size o.parts.length (by omega) (by omega)
    have hr1 : roomN o.kind o.text.size o.parts.length ≤ 500 := by
      unfold roomN
      split <;> omega
    have hw4 : IntKind.i64.wrap (4000 - (roomN o.kind o.text.size o.parts.length : Int)) = 4000 - (roomN o.kind o.text.size o.parts.length : Int) := by rw [Go.Ab.wrap_small (by omega) (by omega)]
    generalize roomN o.kind o.text.size o.parts.length = rm at *

    (refine awp_reg_seq [0, 3, 15] fun K hK => ?_; (repeat' ((refine al_r rfl fun K' hK' => ?_); (repeat (simp only [go_sem, simprocAttr, List.length_map, hw4])); (first | ((first | refine hK' _ _ ?_ | refine ⟨?_, hK' _ _ ?_⟩) <;> clear hK' K' <;> (first | (show alist _ _ _ _ _ _; skip) | (intro s hs; cases hs; done) | (simp; done))) | ((show AC _ _ (D.fn 51 _) _ _); refine acall_p (f := 51) (e := rfl) (hr := rfl) (k := hK' _ _ ?_) (hc := Try.call51) (h := hro); clear hK' K')))); all_goals (refine al_nil ?_; (simp only [go_sem, simprocAttr, List.length_map, hw4]); refine hK _ ?_; clear hK K))
    refine awp_if (decide ((h.length : Int) > 4000 - (rm : Int))) rfl (fun hc => ?_) (fun hc => ?_)
    · (refine awp_reg_seq [4, 5, 6] fun K hK => ?_; (repeat' ((refine al_r rfl fun K' hK' => ?_); (repeat (simp only [go_sem, simprocAttr, List.length_map, hw4])); ((refine hK' _ _ ?_) <;> clear hK' K'))); all_goals (refine al_nil ?_; (simp only [go_sem, simprocAttr, List.length_map, hw4]); refine hK _ ?_; clear hK K))
      exfalso
      rw [if_pos hc] at hv
      rw [hv] at hg
      cases hg
    · rw [if_neg (by rw [hc]; simp)] at hv
      have hh4 : h.length ≤ 4000 := by simp at hc; omega
      have hcl := cloneH (h.map wrow) (wrow1 h) (by simp; omega)
      rw [List.length_map] at hcl
      have hth : List.take h.length (h.map wrow) = h.map wrow := List.take_of_length_le (by simp)
      have hfit : (h.length + 1) * 8 ≤ 140737488355328 := by omega

      refine awp_skip ?_
      refine hK _ ?_; clear hK K
      refine awp_draw_seq (by kernel_rfl) [0, 3, 7] fun K hK => ?_
      ((refine ah_r 0 rfl (by kernel_rfl) rfl fun K' hK' => ?_); (simp only [go_sem, simprocAttr, List.length_map, hth, hfit, List.drop_zero]); ((refine hK' _ ?_); clear hK' K'))
      ((refine ah_r 2 rfl (by kernel_rfl) rfl fun K' hK' => ?_); (simp only [go_sem, simprocAttr, List.length_map, hth, hfit, List.drop_zero]); ((refine hK' _ ?_); clear hK' K'))
      (refine ah_one 1 rfl (by kernel_rfl) ?_; (repeat' ((refine al_r rfl fun K' hK' => ?_); (repeat (simp only [go_sem, simprocAttr, List.length_map, hth, hfit, List.drop_zero])); ((show AC _ _ (D.fn 43 _) _ _); refine acall_new (f := 43) Try.call43 hcl rfl ?_; rintro r obs' ⟨rfl, rfl⟩; (simp only [go_sem, simprocAttr, List.length_map, hth, hfit, List.drop_zero]); refine hK' _ _ ?_; clear hK' K'))); all_goals refine al_nil ?_)
      (refine ah_one 3 rfl (by kernel_rfl) ?_; (repeat' ((refine al_r rfl fun K' hK' => ?_); (repeat (simp only [go_sem, simprocAttr, List.length_map, hth, hfit, List.drop_zero])); ((show AC _ _ (D.fn 53 _) _ _); refine acall_p (f := 53) (e := rfl) (hr := rfl) (k := hK' _ _ ?_) (hc := Try.call53) (h := hhe); clear hK' K'))); all_goals refine al_nil ?_)
      (refine ah_one 4 rfl (by kernel_rfl) ?_; (repeat' ((refine al_r rfl fun K' hK' => ?_); (repeat (simp only [go_sem, simprocAttr, List.length_map, hth, hfit, List.drop_zero])); ((refine hK' _ _ ?_) <;> clear hK' K'))); all_goals refine al_nil ?_)
      (refine ah_one 5 rfl (by kernel_rfl) ?_; (repeat' ((refine al_r rfl fun K' hK' => ?_); (repeat (first | (simp only [go_sem, simprocAttr, List.length_map, hth, hfit, List.drop_zero]) | refine AAp.grow ?_)); ((refine ⟨?_, ?_, hK' _ _ ?_⟩) <;> clear hK' K' <;> (first | (show alist _ _ _ _ _ _; skip) | (simp; done))))); all_goals refine al_nil ?_)
      ((refine ah_r 6 rfl (by kernel_rfl) rfl fun K' hK' => ?_); (simp only [go_sem, simprocAttr, List.length_map, hth, hfit, List.drop_zero]); ((refine hK' _ ?_); clear hK' K'))
      (refine ah_done (by kernel_rfl) ?_; (simp only [go_sem, simprocAttr, List.length_map, hth, hfit, List.drop_zero]); refine hK _ ?_; clear hK K)
      refine awp_seq_kc fun K hK hcut => ?_
      have key : ∀ W : List Int, W.length ≤ 4010 → R0 = (W ++ (textW o.text ++ o.parts), (h.length : Int), 0) → K ⟨ofL [(0, words h), (3, .rd [.lit (.int .i64 o.at_), .lit (.int .i64 o.kind), .lit (.int .i64 o.num), .lit (.string o.text), .sl (o.parts.map wrow)] 0), (7, .ref 0 0 W.length)], [.row 1 (W.map wrow)], 0⟩ := by
        clear hcut
        intro W hWl hRW
        clear hv hcl hel
        obtain ⟨M, hM⟩ : ∃ M, M = (o.text.size + 7) / 8 := ⟨_, rfl⟩
        have hM9 : M ≤ 8 := by omega
        refine hK _ ?_; clear hK K
        refine awp_seq_k fun K hK => ?_
        (refine awp_reg_seq [0, 3, 7, 8] fun K hK => ?_; (repeat' ((refine al_r rfl fun K' hK' => ?_); (repeat (simp only [go_sem, simprocAttr, List.length_map, hth, hfit, List.drop_zero])); ((refine hK' _ _ ?_) <;> clear hK' K'))); all_goals (refine al_nil ?_; (simp only [go_sem, simprocAttr, List.length_map, hth, hfit, List.drop_zero]); refine hK _ ?_; clear hK K))
        refine awp_block ?_
        -- loop 0 head [0, 3, 7, 8]
        refine awp_loop_cut (fun m s => ∃ (j : Nat) (V : List Int), j ≤ M ∧ m = M - j ∧ V.length = W.length + j ∧ V ++ textF o.text (M - j) (8 * j) = W ++ textW o.text ∧ s = ⟨ofL [(0, words h), (3, .rd [.lit (.int .i64 o.at_), .lit (.int .i64 o.kind), .lit (.int .i64 o.num), .lit (.string o.text), .sl (o.parts.map wrow)] 0), (7, .ref 0 0 V.length), (8, iD ((8 * j : Nat) : Int))], [.row 1 (V.map wrow)], 0⟩) ⟨_, 0, W, Nat.zero_le _, rfl, rfl, by rw [hM]; rfl, rfl⟩ ?_
        rintro m s ⟨j, V, hj, hmj, hVl, hVt, rfl⟩
        refine awp_seq_k fun K hK => ?_
        (refine awp_reg_seq [0, 3, 7, 8, 53] fun K hK => ?_; (repeat' ((refine al_r rfl fun K' hK' => ?_); (repeat (simp only [go_sem, simprocAttr, List.length_map, hth, hfit, List.drop_zero])); ((first | refine hK' _ _ ?_ | refine ⟨?_, hK' _ _ ?_⟩) <;> clear hK' K' <;> (first | (show alist _ _ _ _ _ _; skip) | (simp; done))))); all_goals (refine al_nil ?_; (simp only [go_sem, simprocAttr, List.length_map, hth, hfit, List.drop_zero]); refine hK _ ?_; clear hK K))
        refine awp_if (decide (((8 * j : Nat) : Int) < (o.text.size : Int))) rfl (fun hc => ?_) (fun hc => ?_)
        · refine awp_skip ?_
          refine hK _ ?_; clear hK K
          refine awp_seq_k fun K hK => ?_
          refine awp_block ?_
          have hj2 : j < M := by simp at hc; omega
          have htf : textF o.text (M - j) (8 * j) = wordAt o.text (8 * j) :: textF o.text (M - (j + 1)) (8 * (j + 1)) := by
            rw [show M - j = (M - (j + 1)) + 1 by omega]; rfl
          (refine awp_reg_seq [0, 3, 7, 8, 9] fun K hK => ?_; (repeat' ((refine al_r rfl fun K' hK' => ?_); (repeat (simp only [go_sem, simprocAttr, List.length_map, hth, hfit, List.drop_zero])); ((refine hK' _ _ ?_) <;> clear hK' K'))); all_goals (refine al_nil ?_; (simp only [go_sem, simprocAttr, List.length_map, hth, hfit, List.drop_zero]); refine hK _ ?_; clear hK K))
          refine awp_seq_k fun K hK => ?_
          (refine awp_reg_seq [0, 3, 7, 8, 9, 56] fun K hK => ?_; (repeat' ((refine al_r rfl fun K' hK' => ?_); (repeat (simp only [go_sem, simprocAttr, List.length_map, hth, hfit, List.drop_zero])); ((refine hK' _ _ ?_) <;> clear hK' K'))); all_goals (refine al_nil ?_; (simp only [go_sem, simprocAttr, List.length_map, hth, hfit, List.drop_zero]); refine hK _ ?_; clear hK K))
          refine awp_block ?_
          -- loop 1 head [0, 3, 7, 8, 9, 56]
          refine awp_loop (fun m s => ∃ (k : Nat) (w : Int), k ≤ 8 ∧ m = 8 - k ∧ orF o.text (8 * j) (8 - k) k w = wordAt o.text (8 * j) ∧ s = ⟨ofL [(0, words h), (3, .rd [.lit (.int .i64 o.at_), .lit (.int .i64 o.kind), .lit (.int .i64 o.num), .lit (.string o.text), .sl (o.parts.map wrow)] 0), (7, .ref 0 0 V.length), (8, iD ((8 * j : Nat) : Int)), (9, wD w), (56, iD k)], [.row 1 (V.map wrow)], 0⟩) ⟨_, 0, 0, by omega, rfl, rfl, rfl⟩ ?_
          rintro m s ⟨k, w, hk, rfl, hw, rfl⟩
          (refine awp_reg_seq [0, 3, 7, 8, 9, 56, 57] fun K hK => ?_; (repeat' ((refine al_r rfl fun K' hK' => ?_); (repeat (simp only [go_sem, simprocAttr, List.length_map, hth, hfit, List.drop_zero])); ((refine hK' _ _ ?_) <;> clear hK' K'))); all_goals (refine al_nil ?_; (simp only [go_sem, simprocAttr, List.length_map, hth, hfit, List.drop_zero]); refine hK _ ?_; clear hK K))
          refine awp_seq_k fun K hK => ?_
          refine awp_if (decide ((k : Int) < 8)) rfl (fun hc => ?_) (fun hc => ?_)
          · refine awp_skip ?_
            refine hK _ ?_; clear hK K
            refine awp_seq_k fun K hK => ?_
            refine awp_block ?_
            have hk2 : k < 8 := by simp at hc; omega
            have hnk : IntKind.i64.wrap ((k : Int) + 1) = ((k + 1 : Nat) : Int) := by rw [Go.Ab.wrap_small (by omega) (by omega)]; rfl
            have hwi : IntKind.i64.wrap (((8 * j : Nat) : Int) + (k : Int)) = ((8 * j + k : Nat) : Int) := by rw [Go.Ab.wrap_small (by omega) (by omega)]; rfl
            have hm8 : IntKind.i64.wrap (8 * (k : Int)) = ((8 * k : Nat) : Int) := by rw [Go.Ab.wrap_small (by omega) (by omega)]; omega
            have h80 : (0 : Int) ≤ ((8 * k : Nat) : Int) := Int.natCast_nonneg _
            have hi0 : (0 : Int) ≤ ((8 * j + k : Nat) : Int) := Int.natCast_nonneg _
            have horf : orF o.text (8 * j) (8 - k) k w = orF o.text (8 * j) (8 - (k + 1)) (k + 1) (orStep o.text (8 * j) k w) := by
              rw [show 8 - k = (8 - (k + 1)) + 1 by omega]; rfl
            rw [horf] at hw
            (refine awp_reg_seq [0, 3, 7, 8, 9, 10, 56] fun K hK => ?_; (repeat' ((refine al_r rfl fun K' hK' => ?_); (repeat (simp only [go_sem, simprocAttr, List.length_map, hth, hfit, List.drop_zero])); ((refine hK' _ _ ?_) <;> clear hK' K'))); all_goals (refine al_nil ?_; (simp only [go_sem, simprocAttr, List.length_map, hth, hfit, List.drop_zero]); refine hK _ ?_; clear hK K))

            (refine awp_reg_seq [0, 3, 7, 8, 9, 10, 56, 65] fun K hK => ?_; (repeat' ((refine al_r rfl fun K' hK' => ?_); (repeat (simp only [go_sem, simprocAttr, hwi, hnk, hm8, h80, hi0])); ((first | refine hK' _ _ ?_ | refine ⟨?_, hK' _ _ ?_⟩) <;> clear hK' K' <;> (first | (show alist _ _ _ _ _ _; skip) | (simp; done))))); all_goals (refine al_nil ?_; (simp only [go_sem, simprocAttr, hwi, hnk, hm8, h80, hi0]); refine hK _ ?_; clear hK K))
            refine awp_if (decide (((8 * j + k : Nat) : Int) < (o.text.size : Int))) rfl (fun hc => ?_) (fun hc => ?_)
            · obtain ⟨b, hb⟩ := get_byte (s := o.text) (i := 8 * j + k) (by simp at hc; omega)
              have hos : orStep o.text (8 * j) k w = bits .or .u64 w (IntKind.u64.wrap (IntKind.u64.wrap (b.toNat : Int) * 2 ^ min (8 * k) 64)) := by unfold orStep; rw [hb]
              rw [hos] at hw

              (refine awp_reg_end [0, 3, 7, 8, 9, 56] fun K hK => ?_; (repeat' ((refine al_r rfl fun K' hK' => ?_); (repeat (simp only [go_sem, simprocAttr, hwi, hnk, hm8, h80, hi0, hb, Int.toNat_natCast])); ((refine hK' _ _ ?_) <;> clear hK' K'))); all_goals (refine al_nil ?_; (simp only [go_sem, simprocAttr, hwi, hnk, hm8, h80, hi0, hb, Int.toNat_natCast]); refine hK _ ?_; clear hK K))
              refine hK _ ?_; clear hK K
              (refine awp_reg_end [0, 3, 7, 8, 9, 56] fun K hK => ?_; (repeat' ((refine al_r rfl fun K' hK' => ?_); (repeat (simp only [go_sem, simprocAttr, hwi, hnk, hm8, h80, hi0, hb, Int.toNat_natCast])); ((refine hK' _ _ ?_) <;> clear hK' K'))); all_goals (refine al_nil ?_; (simp only [go_sem, simprocAttr, hwi, hnk, hm8, h80, hi0, hb, Int.toNat_natCast]); refine hK _ ?_; clear hK K))
              refine ⟨_, ?_, k + 1, _, hk2, rfl, hw, rfl⟩
              omega
            · have hno : o.text[8 * j + k]? = none := getElem?_neg o.text (8 * j + k) (by simp at hc; omega)

              have hos : orStep o.text (8 * j) k w = w := by unfold orStep; rw [hno]
              rw [hos] at hw
              refine awp_skip ?_
              refine hK _ ?_; clear hK K
              (refine awp_reg_end [0, 3, 7, 8, 9, 56] fun K hK => ?_; (repeat' ((refine al_r rfl fun K' hK' => ?_); (repeat (simp only [go_sem, simprocAttr, hwi, hnk, hm8, h80, hi0])); ((refine hK' _ _ ?_) <;> clear hK' K'))); all_goals (refine al_nil ?_; (simp only [go_sem, simprocAttr, hwi, hnk, hm8, h80, hi0]); refine hK _ ?_; clear hK K))
              refine ⟨_, ?_, k + 1, _, hk2, rfl, hw, rfl⟩
              omega
          · have hk8 : k = 8 := by simp at hc; omega
            subst hk8
            have hw8 : w = wordAt o.text (8 * j) := hw
            have htV : List.take V.length (V.map wrow) = V.map wrow := List.take_of_length_le (by simp)
            have hfV : (V.length + 1) * 8 ≤ 140737488355328 := by omega
            have hn8 : IntKind.i64.wrap (((8 * j : Nat) : Int) + 8) = ((8 * (j + 1) : Nat) : Int) := by rw [Go.Ab.wrap_small (by omega) (by omega)]; omega

            refine awp_exit ?_
            clear hK
            refine hK _ ?_; clear hK K
            (refine awp_reg_end [0, 3, 7, 8] fun K hK => ?_; (repeat' ((refine al_r rfl fun K' hK' => ?_); (repeat (first | (simp only [go_sem, simprocAttr, List.length_map, htV, hfV, hn8, List.drop_zero]) | refine AAp.grow ?_)); ((first | refine hK' _ _ ?_ | refine ⟨?_, ?_, hK' _ _ ?_⟩) <;> clear hK' K' <;> (first | (show alist _ _ _ _ _ _; skip) | (simp; done))))); all_goals (refine al_nil ?_; (simp only [go_sem, simprocAttr, List.length_map, htV, hfV, hn8, List.drop_zero]); refine hK _ ?_; clear hK K))
            refine hK _ ?_; clear hK K
            (refine awp_reg_end [0, 3, 7, 8] fun K hK => ?_; (repeat' ((refine al_r rfl fun K' hK' => ?_); (repeat (simp only [go_sem, simprocAttr, List.length_map, htV, hfV, hn8, List.drop_zero])); ((refine hK' _ _ ?_) <;> clear hK' K'))); all_goals (refine al_nil ?_; (simp only [go_sem, simprocAttr, List.length_map, htV, hfV, hn8, List.drop_zero]); refine hK _ ?_; clear hK K))
            refine ⟨M - (j + 1), by omega, [0, 3, 7, 8], [2], by decide, by intro q hq; exact absurd hq (Nat.not_lt_zero q), j + 1, V ++ [w], by omega, rfl, by simp; omega, ?_, ?_⟩
            · rw [← hVt, htf, hw8]; simp
            · simp only [go_sem, simprocAttr, List.length_map, htV, hfV, hn8, List.drop_zero]

        · have hjM : j = M := by simp at hc; omega
          subst hjM
          have hV2 : V = W ++ textW o.text := by rw [← hVt, Nat.sub_self]; simp [textF]
          have htV : List.take V.length (V.map wrow) = V.map wrow := List.take_of_length_le (by simp)
          have htP : List.take o.parts.length (o.parts.map wrow) = o.parts.map wrow := List.take_of_length_le (by simp)
          have hfV : (V.length + o.parts.length) * 8 ≤ 140737488355328 := by omega
          have htA : List.take (V.length + o.parts.length) (V.map wrow ++ o.parts.map wrow) = (V ++ o.parts).map wrow := by
            rw [List.take_of_length_le (by simp), List.map_append]

          refine awp_exit ?_
          clear hK
          refine hK _ ?_; clear hK K
          (refine awp_reg_seq [4, 5, 6] fun K hK => ?_; (repeat' ((refine al_r rfl fun K' hK' => ?_); (repeat (first | (simp only [go_sem, simprocAttr, List.length_map, htV, htP, hfV, htA, List.drop_zero]) | refine AAp.grow ?_)); ((first | refine hK' _ _ ?_ | refine ⟨?_, hK' _ _ ?_⟩ | refine ⟨?_, ?_, hK' _ _ ?_⟩) <;> clear hK' K' <;> (first | (show alist _ _ _ _ _ _; skip) | (intro s hs; cases hs; done) | (simp; done))))); all_goals (refine al_nil ?_; (simp only [go_sem, simprocAttr, List.length_map, htV, htP, hfV, htA, List.drop_zero]); refine hK _ ?_; clear hK K))
          refine awp_ret (hR _ _ [1] (.inl rfl) rfl (by decide) (by simp only [List.length_cons, List.length_nil]; decide) ?_)
          rw [hRW, ← List.append_assoc, ← hV2]
          refine ⟨?_, ?_⟩ <;> simp only [go_sem, simprocAttr, List.length_map, htV, htP, hfV, htA, List.drop_zero, List.length_append, List.map_append]

      (refine awp_reg_tov [0, 3, 7, 42] [(42, bD (o.kind == 1 || o.kind == 4))] (h := ?_) (k := ?_); · ((repeat' (first | ((first | refine al_r rfl fun K' hK' => ?_ | refine al_t rfl rfl fun K' hK' => ?_); (repeat (simp only [go_sem, simprocAttr, List.length_map, List.drop_zero])); ((refine hK' _ _ ?_) <;> clear hK' K')) | refine al_e rfl rfl ?_ | ((fail_if_success (refine al_t rfl rfl fun K' hK' => ?_)); refine al_s _ rfl rfl rfl (fun hb => ?_) (fun hb => ?_)))); all_goals (refine al_nil ?_; simp only [go_sem, simprocAttr, List.length_map, List.drop_zero, *, Bool.and_true, Bool.and_false, Bool.true_and, Bool.false_and, Bool.or_true, Bool.true_or, Bool.or_false, Bool.false_or, Bool.not_true, Bool.not_false, Bool.false_eq_true]))); intro K hK; (simp only [go_sem, simprocAttr, List.length_map, List.drop_zero]); refine hK _ ?_; clear hK K
      refine awp_if (numK o.kind) rfl (fun hc => ?_) (fun hc => ?_)
      · have hRa : R0 = ((h ++ [headS o] ++ [IntKind.u64.wrap o.num]) ++ (textW o.text ++ o.parts), (h.length : Int), 0) := by rw [hv]; simp [encW, numW, hc]
        have htB : List.take (h.length + 1) (h.map wrow ++ [[.lit (.int .u64 (headS o))]]) = h.map wrow ++ [[.lit (.int .u64 (headS o))]] := List.take_of_length_le (by simp)
        have hfB : (h.length + 1 + 1) * 8 ≤ 140737488355328 := by omega

        (refine awp_reg_end [0, 3, 7] fun K hK => ?_; (repeat' ((refine al_r rfl fun K' hK' => ?_); (repeat (first | (simp only [go_sem, simprocAttr, List.length_map, htB, hfB, List.drop_zero]) | refine AAp.grow ?_)); ((first | refine hK' _ _ ?_ | refine ⟨?_, ?_, hK' _ _ ?_⟩) <;> clear hK' K' <;> (first | (show alist _ _ _ _ _ _; skip) | (simp; done))))); all_goals (refine al_nil ?_; (simp only [go_sem, simprocAttr, List.length_map, htB, hfB, List.drop_zero]); refine hK _ ?_; clear hK K))
        (first
          | (refine hcut _ [0, 3, 7] [4] (by decide) (by intro q hq; exact absurd hq (Nat.not_lt_zero q)) ?_; have hk := key (h ++ [headS o] ++ [IntKind.u64.wrap o.num]) (by simp; omega) hRa; simp only [List.length_append, List.length_cons, List.length_nil, List.map_append, List.map_cons, List.map_nil, Nat.zero_add] at hk; simp only [go_sem, simprocAttr, List.length_map, htB, hfB, List.drop_zero]; exact hk)
          | (refine hcut _ [0, 3, 7] [2] (by decide) (by intro q hq; exact absurd hq (Nat.not_lt_zero q)) ?_; have hk := key (h ++ [headS o]) (by simp; omega) hRb; simp only [List.length_append, List.length_cons, List.length_nil, List.map_append, List.map_cons, List.map_nil, Nat.zero_add] at hk; simp only [go_sem, simprocAttr, List.length_map, htB, hfB, List.drop_zero]; exact hk))
      · have hRb : R0 = ((h ++ [headS o]) ++ (textW o.text ++ o.parts), (h.length : Int), 0) := by rw [hv]; simp [encW, numW, hc]

        refine awp_skip ?_
        (first
          | (refine hcut _ [0, 3, 7] [4] (by decide) (by intro q hq; exact absurd hq (Nat.not_lt_zero q)) ?_; have hk := key (h ++ [headS o] ++ [IntKind.u64.wrap o.num]) (by simp; omega) hRa; simp only [List.length_append, List.length_cons, List.length_nil, List.map_append, List.map_cons, List.map_nil, Nat.zero_add] at hk; simp only [go_sem, simprocAttr, List.length_map, List.drop_zero]; exact hk)
          | (refine hcut _ [0, 3, 7] [2] (by decide) (by intro q hq; exact absurd hq (Nat.not_lt_zero q)) ?_; have hk := key (h ++ [headS o]) (by simp; omega) hRb; simp only [List.length_append, List.length_cons, List.length_nil, List.map_append, List.map_cons, List.map_nil, Nat.zero_add] at hk; simp only [go_sem, simprocAttr, List.length_map, List.drop_zero]; exact hk))
end Go.Proofs.Ytagphggcdmjlpaa.P

/- An object that was handed in is carried on under another number. No program is named here. -/
namespace Go.Ab

theorem Is.mv {M : En} {H0 : HV} {w0 : World} {nt : Nat} {st : St} {a : Act} {w : World} (h : Is M H0 w0 nt st a w) (ts : List Nat) {ids : List Nat} (hd : ids.Nodup)
    (hp : ∀ k, k < st.n0 → ids[k]? = some k ∨ ∃ j, ids[k]? = some j ∧ st.ob.length ≤ j) :
    Is M H0 w0 nt (st.cut ts ids) a w := by
  obtain ⟨H, loc, r⟩ := h
  refine ⟨H, fun k => loc (ids.getD k 0), r.sr.ren hd, fun t => ?_, r.sz, r.df, r.gr, fun k o ho hv hr => ?_, r.n0, fun k o ho => ?_⟩
  · have e : (st.cut ts ids).tm t = keepTm ts (fun t => D.map (ren1 ids) (st.tm t)) t := rfl
    rw [e]
    rcases keepTm_is ts (fun t => D.map (ren1 ids) (st.tm t)) t with h | h
    · rw [h]; exact (r.tm t).map (leafy_ren H loc st.ob ids)
    · rw [h]; exact .none _
  · obtain ⟨i, o', hi, rfl, hx⟩ := newObs_of ho
    rw [renOb_live] at hv
    have hl : loc (ids.getD k 0) = loc i := by simp [List.getD_eq_getElem?_getD, hi]
    have hr2 : (loc (ids.getD k 0)).r = true := hr
    show M.M (loc (ids.getD k 0)).b ∨ _ ≤ (loc (ids.getD k 0)).b
    rw [hl] at hr2 ⊢
    rcases hx with hx | rfl
    · exact r.own i o' hx hv hr2
    · cases hv
  · have hk : k < st.n0 := by
      rw [← r.n0]
      rcases Nat.lt_or_ge k M.ob.length with h' | h'
      · exact h'
      · simp [List.getElem?_eq_none h'] at ho
    rcases hp k hk with hk2 | ⟨j, hj, hjl⟩
    · have hl : loc (ids.getD k 0) = loc k := by simp [List.getD_eq_getElem?_getD, hk2]
      rcases r.ent k o ho with h1 | ⟨o', h1, h2, h3⟩
      · exact .inl (newObs_get hk2 h1)
      · refine .inr ⟨_, newObs_get hk2 h1, ?_, ?_⟩
        · cases o' <;> cases o <;> simp_all [Ob.sameShape, renOb, D.mapL_eq]
        · show loc (ids.getD k 0) = _
          rw [hl]; exact h3
    · refine .inl ?_
      show (newObs st.ob ids)[k]? = some .dead
      unfold newObs
      rw [List.getElem?_map, hj, Option.map_some, List.getD_eq_getElem?_getD, List.getElem?_eq_none hjl]
      rfl

theorem awp_mv {P : Program} {nt : Nat} {Q : Exit → St → Prop} {st : St} {c : Code} (ts ids : List Nat) (hd : ids.Nodup) (hp : ∀ k, k < st.n0 → ids[k]? = some k ∨ ∃ j, ids[k]? = some j ∧ st.ob.length ≤ j)
    (h : AWp P nt c Q (st.cut ts ids)) : AWp P nt c Q st :=
  fun M H0 w0 w a hi => h M H0 w0 w a (hi.mv ts hd hp)

section
variable {P : Program} {f : FuncId} {caps args : List D} {st : St} {K : D → St → Prop}

/-- A call to which the caller's rows are lent as data; it hands back new objects. -/
theorem acall_gn {args' : List D} {r : D} {obs2 : List Ob} (hc : ∀ args w, (callFunc f args).run P w = .ok (.enter f args) w) (h : ACalls P f args' [] (fun r' obs' => r' = r ∧ obs' = obs2)) (e : (args ++ caps).map (D.map (give [] st.ob)) = args')
    (hf : D.all flatL r) (hfo : ∀ o, o ∈ obs2 → flatOb o) (k : K (D.map (back [] st.ob.length) r) ⟨st.tm, st.ob ++ obs2.map (renOb (back [] st.ob.length)), st.n0⟩) : AC P st (.fn f caps) args K := by
  subst e
  refine .mk ⟨hc, [], _, List.nodup_nil, fun i hi => (by cases hi), .inr ⟨h, ?_⟩⟩
  rintro r' obs' ⟨rfl, rfl⟩
  refine ⟨Nat.zero_le _, hf, hfo, ?_⟩
  simpa [merge, setAll] using k
end

end Go.Ab

/- The copier's word: what it answers, and three contracts. -/
namespace Go.Proofs.Ytagphggcdmjlpaa.P
open Go.Ab Go.Proofs.Ytagphggcdmjlpaa.T

/-- What a place was moved to. -/
def lk : List (Int × Int) → Int → Option Int
  | [], _ => none
  | (a, b) :: l, n => if a = n then some b else lk l n

theorem flat_w (l : List Int) : ∀ o, o ∈ [Ob.row 1 (l.map wrow)] → flatOb o := fun o ho => by
  rcases List.mem_singleton.1 ho with rfl
  intro x hx y hy
  obtain ⟨n, _, rfl⟩ := List.mem_map.1 hx
  rcases List.mem_singleton.1 hy with rfl
  trivial


end Go.Proofs.Ytagphggcdmjlpaa.P

/- The object at a place of a heap, its parts an own row: the walk. -/
namespace Go.Proofs.Ytagphggcdmjlpaa.P
open Go.Ab Go.Proofs.Ytagphggcdmjlpaa.T


theorem atP (h : List Int) (a : Int) (oo : Obj) (hlen : h.length ≤ maxLen) (hok : ∀ w, w ∈ h → WordOk w) (hfin : atS h a = (oo, 0)) :
    ACalls Try.prog 19 [words h, iD a] [] (fun r obs' => r = .tup [.agg [iD oo.at_, iD oo.kind, iD oo.num, .p (.lit (.string oo.text)), .ref 0 0 oo.parts.length], iD 0] ∧ obs' = [.row 1 (oo.parts.map wrow)]) := by
  obtain ⟨R0, hR0⟩ : ∃ R0, R0 = atS h a := ⟨_, rfl⟩
  have hv : R0 = if decide (a < 0) || decide (a ≥ h.length) then (z0, 4) else
    match h[a.toNat]? with
    | none => (z0, 0)
    | some w => if (w.fdiv (2 ^ min 32 64) != 0) || decide ((roomN (kN w) (tN w).toNat (pN w).toNat : Int) > h.length - a) then (z0, 3) else atR h a.toNat (kN w) (tN w).toNat (pN w).toNat := hR0
  rw [← hR0] at hfin
  clear hR0
  refine acallm_fnv [.cell 4 30, .tmp 5] Try.func19 rfl rfl Try.ntmps19 (by simp) (by simp) fun R hR => ?_
  (refine awp_reg_seq [0, 1, 4] fun K hK => ?_; (repeat' ((refine al_r rfl fun K' hK' => ?_); (repeat (simp only [go_sem, simprocAttr, List.length_map])); ((refine hK' _ _ ?_) <;> clear hK' K'))); all_goals (refine al_nil ?_; (simp only [go_sem, simprocAttr, List.length_map]); refine hK _ ?_; clear hK K))
  refine awp_seq_k fun K hK => ?_
  (refine awp_reg_tov [0, 1, 4, 23] [(23, bD (decide (a < 0) || decide (a ≥ (h.length : Int))))] (h := ?_) (k := ?_); · ((repeat' (first | ((first | refine al_r rfl fun K' hK' => ?_ | refine al_t rfl rfl fun K' hK' => ?_); (repeat (simp only [go_sem, simprocAttr, List.length_map])); ((first | refine hK' _ _ ?_ | refine ⟨?_, hK' _ _ ?_⟩) <;> clear hK' K' <;> (first | (show alist _ _ _ _ _ _; skip) | (intro s hs; cases hs; done)))) | refine al_e rfl rfl ?_ | ((fail_if_success (refine al_t rfl rfl fun K' hK' => ?_)); refine al_s _ rfl rfl rfl (fun hb => ?_) (fun hb => ?_)))); all_goals (refine al_nil ?_; simp only [go_sem, simprocAttr, List.length_map, *, Bool.and_true, Bool.and_false, Bool.true_and, Bool.false_and, Bool.or_true, Bool.true_or, Bool.or_false, Bool.false_or, Bool.not_true, Bool.not_false, Bool.false_eq_true]))); intro K hK; (simp only [go_sem, simprocAttr, List.length_map]); refine hK _ ?_; clear hK K
  refine awp_if (_) rfl (fun hc => ?_) (fun hc => ?_)
  · (refine awp_reg_seq [4, 5] fun K hK => ?_; (repeat' ((first | refine al_r rfl fun K' hK' => ?_ | refine al_d rfl fun K' hK' => ?_); (repeat (first | (simp only [go_sem, simprocAttr, List.length_map]) | refine AS.mk ?_)); ((first | refine hK' _ _ ?_ | refine ⟨?_, hK' _ _ ?_⟩) <;> clear hK' K' <;> (first | (show alist _ _ _ _ _ _; skip) | (simp; done))))); all_goals (refine al_nil ?_; (simp only [go_sem, simprocAttr, List.length_map]); refine hK _ ?_; clear hK K))
    exfalso
    rw [if_pos hc, hfin] at hv
    cases (Prod.mk.inj hv).2
  · rw [if_neg (by rw [hc]; simp)] at hv
    have hc0 := hc
    simp only [Bool.or_eq_false_iff, decide_eq_false_iff_not] at hc0
    obtain ⟨n, rfl⟩ := Int.eq_ofNat_of_zero_le (show 0 ≤ a by omega)
    have hnl : n < h.length := by omega
    obtain ⟨w, hw⟩ := get_of_lt hnl
    rw [Int.toNat_natCast, hw] at hv
    simp only at hv
    have hn0 : (0 : Int) ≤ (n : Int) := Int.natCast_nonneg n
    have hwok := hok w (List.mem_of_getElem? hw)
    obtain ⟨t, ht, ht4⟩ := tN_ok hwok
    obtain ⟨p, hp, hp4⟩ := pN_ok hwok
    have hkN : IntKind.i64.wrap (bits .and .u64 w 255) = kN w := rfl
    have htN : IntKind.i64.wrap (bits .and .u64 (w.fdiv (2 ^ min 8 64)) 4095) = (t : Int) := ht
    have hpN : IntKind.i64.wrap (bits .and .u64 (w.fdiv (2 ^ min 20 64)) 4095) = (p : Int) := hp
    rw [ht, hp, Int.toNat_natCast, Int.toNat_natCast] at hv
    generalize kN w = k at *
    have hro := room k t p (by omega) (by omega)
    have hwr : IntKind.i64.wrap ((h.length : Int) - (n : Int)) = (h.length : Int) - (n : Int) := by
      simp [maxLen] at hlen
      rw [Go.Ab.wrap_small (by omega) (by omega)]

    refine awp_skip ?_
    refine hK _ ?_; clear hK K
    (refine awp_reg_seq [0, 1, 4, 6] fun K hK => ?_; (repeat' ((refine al_r rfl fun K' hK' => ?_); (repeat (simp only [go_sem, simprocAttr, List.length_map, hw, hnl, hn0, hkN, htN, hpN, hwr, Int.toNat_natCast, List.getElem?_map, Option.map_some])); ((refine hK' _ _ ?_) <;> clear hK' K'))); all_goals (refine al_nil ?_; (simp only [go_sem, simprocAttr, List.length_map, hw, hnl, hn0, hkN, htN, hpN, hwr, Int.toNat_natCast, List.getElem?_map, Option.map_some]); refine hK _ ?_; clear hK K))
    (refine awp_reg_seq [0, 1, 4, 6, 7, 8, 9] fun K hK => ?_; (repeat' ((refine al_r rfl fun K' hK' => ?_); (repeat (simp only [go_sem, simprocAttr, List.length_map, hw, hnl, hn0, hkN, htN, hpN, hwr, Int.toNat_natCast, List.getElem?_map, Option.map_some])); ((refine hK' _ _ ?_) <;> clear hK' K'))); all_goals (refine al_nil ?_; (simp only [go_sem, simprocAttr, List.length_map, hw, hnl, hn0, hkN, htN, hpN, hwr, Int.toNat_natCast, List.getElem?_map, Option.map_some]); refine hK _ ?_; clear hK K))
    refine awp_seq_k fun K hK => ?_
    (refine awp_reg_tov [0, 1, 4, 7, 8, 9, 53] [(53, bD ((w.fdiv (2 ^ min 32 64) != 0) || decide ((roomN k t p : Int) > (h.length : Int) - (n : Int))))] (h := ?_) (k := ?_); · ((repeat' (first | ((first | refine al_r rfl fun K' hK' => ?_ | refine al_t rfl rfl fun K' hK' => ?_); (repeat (simp only [go_sem, simprocAttr, List.length_map, hw, hnl, hn0, hkN, htN, hpN, hwr, Int.toNat_natCast, List.getElem?_map, Option.map_some])); (first | ((first | refine hK' _ _ ?_ | refine ⟨?_, hK' _ _ ?_⟩) <;> clear hK' K' <;> (first | (show alist _ _ _ _ _ _; skip) | (intro s hs; cases hs; done))) | ((show AC _ _ (D.fn 51 _) _ _); refine acall_p (f := 51) (e := rfl) (hr := rfl) (k := hK' _ _ ?_) (hc := Try.call51) (h := hro); clear hK' K'))) | refine al_e rfl rfl ?_ | ((fail_if_success (refine al_t rfl rfl fun K' hK' => ?_)); refine al_s _ rfl rfl rfl (fun hb => ?_) (fun hb => ?_)))); all_goals (refine al_nil ?_; simp only [go_sem, simprocAttr, List.length_map, hw, hnl, hn0, hkN, htN, hpN, hwr, Int.toNat_natCast, List.getElem?_map, Option.map_some, *, Bool.and_true, Bool.and_false, Bool.true_and, Bool.false_and, Bool.or_true, Bool.true_or, Bool.or_false, Bool.false_or, Bool.not_true, Bool.not_false, Bool.false_eq_true]))); intro K hK; (simp only [go_sem, simprocAttr, List.length_map, hw, hnl, hn0, hkN, htN, hpN, hwr, Int.toNat_natCast, List.getElem?_map, Option.map_some]); refine hK _ ?_; clear hK K
    refine awp_if (_) rfl (fun hc => ?_) (fun hc => ?_)
    · (refine awp_reg_seq [4, 5] fun K hK => ?_; (repeat' ((first | refine al_r rfl fun K' hK' => ?_ | refine al_d rfl fun K' hK' => ?_); (repeat (first | (simp only [go_sem, simprocAttr, List.length_map, hw, hnl, hn0, hkN, htN, hpN, hwr, Int.toNat_natCast, List.getElem?_map, Option.map_some]) | refine AS.mk ?_)); ((first | refine hK' _ _ ?_ | refine ⟨?_, hK' _ _ ?_⟩) <;> clear hK' K' <;> (first | (show alist _ _ _ _ _ _; skip) | (simp; done))))); all_goals (refine al_nil ?_; (simp only [go_sem, simprocAttr, List.length_map, hw, hnl, hn0, hkN, htN, hpN, hwr, Int.toNat_natCast, List.getElem?_map, Option.map_some]); refine hK _ ?_; clear hK K))
      exfalso
      rw [if_pos hc, hfin] at hv
      cases (Prod.mk.inj hv).2
    · rw [if_neg (by rw [hc]; simp)] at hv
      have hroom : n + roomN k t p ≤ h.length := by
        simp only [Bool.or_eq_false_iff, decide_eq_false_iff_not] at hc
        omega
      clear hro
      have hn1 : IntKind.i64.wrap ((n : Int) + 1) = ((n + 1 : Nat) : Int) := by
        simp [maxLen] at hlen
        rw [Go.Ab.wrap_small (by omega) (by omega)]; rfl

      refine awp_skip ?_
      refine hK _ ?_; clear hK K
      (refine awp_reg_seq [0, 1, 4, 7, 8, 9, 10] fun K hK => ?_; (repeat' ((first | refine al_r rfl fun K' hK' => ?_ | refine al_d rfl fun K' hK' => ?_); (repeat (first | (simp only [go_sem, simprocAttr, List.length_map, hn1]) | refine AS.mk ?_)); ((first | refine hK' _ _ ?_ | refine ⟨?_, hK' _ _ ?_⟩) <;> clear hK' K' <;> (first | (show alist _ _ _ _ _ _; skip) | (simp; done))))); all_goals (refine al_nil ?_; (simp only [go_sem, simprocAttr, List.length_map, hn1]); refine hK _ ?_; clear hK K))
      (refine awp_reg_seq [0, 1, 4, 7, 8, 9, 10] fun K hK => ?_; (repeat' ((refine al_r rfl fun K' hK' => ?_); (repeat (simp only [go_sem, simprocAttr, List.length_map, hn1])); ((refine hK' _ _ ?_) <;> clear hK' K'))); all_goals (refine al_nil ?_; (simp only [go_sem, simprocAttr, List.length_map, hn1]); refine hK _ ?_; clear hK K))
      refine awp_seq_kc fun K hK hcut => ?_
      have key : ∀ (a1 : Nat) (num : Int), n < a1 → a1 + (t + 7) / 8 + p ≤ h.length → R0 = atO h n (objO h n k num t p a1) (a1 + (t + 7) / 8 + p - n) → K ⟨ofL [(0, words h), (1, iD a1), (4, .ptr 0 0 0), (8, iD t), (9, iD p), (10, .ptr 1 0 0)], [.box [iD 0, iD 0, iD 0, .p (.lit (.string ByteArray.empty)), .nil], .box [iD n, iD k, iD num, .p (.lit (.string ByteArray.empty)), .nil]], 0⟩ := by
        clear hcut
        intro a1 num ha1 hfit hR1
        clear hv
        simp [maxLen] at hlen
        refine hK _ ?_; clear hK K
        (refine awp_reg_seq [0, 1, 4, 8, 9, 10, 11] fun K hK => ?_; (repeat' ((refine al_r rfl fun K' hK' => ?_); (repeat (simp only [go_sem, simprocAttr, List.length_map, hn1])); ((refine hK' _ _ ?_) <;> clear hK' K'))); all_goals (refine al_nil ?_; (simp only [go_sem, simprocAttr, List.length_map, hn1]); refine hK _ ?_; clear hK K))
        refine awp_born 11 1 rfl ?_
        refine awp_seq_k fun K hK => ?_
        (refine awp_reg_seq [0, 1, 4, 8, 9, 10, 11, 74, 75] fun K hK => ?_; (repeat' ((refine al_r rfl fun K' hK' => ?_); (repeat (simp only [go_sem, simprocAttr, List.length_map, hn1])); ((refine hK' _ _ ?_) <;> clear hK' K'))); all_goals (refine al_nil ?_; (simp only [go_sem, simprocAttr, List.length_map, hn1]); refine hK _ ?_; clear hK K))
        refine awp_block ?_
        -- loop 0 head [0, 1, 4, 8, 9, 10, 11, 74, 75]
        refine awp_loop_cut (fun m s => ∃ i : Nat, i ≤ t ∧ m = t - i ∧ s = ⟨ofL [(0, words h), (1, iD a1), (4, .ptr 0 0 0), (8, iD t), (9, iD p), (10, .ptr 1 0 0), (11, .ref 2 0 i), (74, iD t), (75, iD i)], [.box [iD 0, iD 0, iD 0, .p (.lit (.string ByteArray.empty)), .nil], .box [iD n, iD k, iD num, .p (.lit (.string ByteArray.empty)), .nil], .row 1 ((bytesN h a1 i).map brow)], 0⟩) ⟨_, 0, Nat.zero_le _, rfl, rfl⟩ ?_
        rintro m s ⟨i, hi, hmi, rfl⟩
        (refine awp_reg_seq [0, 1, 4, 8, 9, 10, 11, 74, 75, 76] fun K hK => ?_; (repeat' ((refine al_r rfl fun K' hK' => ?_); (repeat (simp only [go_sem, simprocAttr, List.length_map, hn1])); ((refine hK' _ _ ?_) <;> clear hK' K'))); all_goals (refine al_nil ?_; (simp only [go_sem, simprocAttr, List.length_map, hn1]); refine hK _ ?_; clear hK K))
        refine awp_seq_k fun K hK => ?_
        refine awp_if (decide ((i : Int) < (t : Int))) rfl (fun hc => ?_) (fun hc => ?_)
        · refine awp_skip ?_
          refine hK _ ?_; clear hK K
          refine awp_seq_k fun K hK => ?_
          refine awp_block ?_
          have hi2 : i < t := by simpa using hc
          obtain ⟨u, hget⟩ := get_of_lt (l := h) (i := a1 + i / 8) (by omega)
          have hgl := lt_of_get hget
          have hg0 : (0 : Int) ≤ ((a1 + i / 8 : Nat) : Int) := Int.natCast_nonneg _
          have hix : IntKind.i64.wrap ((i : Int) + 1) = ((i + 1 : Nat) : Int) := by rw [Go.Ab.wrap_small (by omega) (by omega)]; rfl
          have hq8 : IntKind.i64.wrap ((i : Int).tdiv 8) = ((i / 8 : Nat) : Int) := by
            rw [Int.tdiv_eq_ediv_of_nonneg (by omega), Go.Ab.wrap_small (by omega) (by omega)]; omega
          have hqa : IntKind.i64.wrap ((a1 : Int) + ((i / 8 : Nat) : Int)) = ((a1 + i / 8 : Nat) : Int) := by rw [Go.Ab.wrap_small (by omega) (by omega)]; rfl
          have hrm : (i : Int).tmod 8 = ((i % 8 : Nat) : Int) := by rw [Int.tmod_eq_emod_of_nonneg (by omega)]; omega
          have hm8 : IntKind.i64.wrap (8 * ((i % 8 : Nat) : Int)) = ((8 * (i % 8) : Nat) : Int) := by rw [Go.Ab.wrap_small (by omega) (by omega)]; omega
          have h80 : (0 : Int) ≤ ((8 * (i % 8) : Nat) : Int) := Int.natCast_nonneg _
          have hby : IntKind.u8.wrap (u.fdiv (2 ^ min (8 * (i % 8)) 64)) = byteN h a1 i := by unfold byteN; simp [List.getD, hget]
          have hti : List.take i ((bytesN h a1 i).map brow) = (bytesN h a1 i).map brow := List.take_of_length_le (by simp [bytesN])
          have hbl : (bytesN h a1 i).length = i := by simp [bytesN]
          have hfi : (i + 1) * 1 ≤ 140737488355328 := by omega

          (refine awp_reg_seq [0, 1, 4, 8, 9, 10, 11, 12, 74, 75] fun K hK => ?_; (repeat' ((refine al_r rfl fun K' hK' => ?_); (repeat (simp only [go_sem, simprocAttr, hget, hgl, hg0, hix, hq8, hqa, hrm, hm8, h80, hby, hti, hbl, hfi, Int.toNat_natCast, List.getElem?_map, Option.map_some, List.length_map, List.drop_zero, Nat.mul_one])); ((refine hK' _ _ ?_) <;> clear hK' K'))); all_goals (refine al_nil ?_; (simp only [go_sem, simprocAttr, hget, hgl, hg0, hix, hq8, hqa, hrm, hm8, h80, hby, hti, hbl, hfi, Int.toNat_natCast, List.getElem?_map, Option.map_some, List.length_map, List.drop_zero, Nat.mul_one]); refine hK _ ?_; clear hK K))
          (refine awp_reg_end [0, 1, 4, 8, 9, 10, 11, 74, 75] fun K hK => ?_; (repeat' ((refine al_r rfl fun K' hK' => ?_); (repeat (first | (simp only [go_sem, simprocAttr, hget, hgl, hg0, hix, hq8, hqa, hrm, hm8, h80, hby, hti, hbl, hfi, Int.toNat_natCast, List.getElem?_map, Option.map_some, List.length_map, List.drop_zero, Nat.mul_one]) | refine AAp.grow ?_)); ((first | refine hK' _ _ ?_ | refine ⟨?_, ?_, ?_, hK' _ _ ?_⟩) <;> clear hK' K' <;> (first | (show alist _ _ _ _ _ _; skip) | (simp; done) | omega)))); all_goals (refine al_nil ?_; (simp only [go_sem, simprocAttr, hget, hgl, hg0, hix, hq8, hqa, hrm, hm8, h80, hby, hti, hbl, hfi, Int.toNat_natCast, List.getElem?_map, Option.map_some, List.length_map, List.drop_zero, Nat.mul_one]); refine hK _ ?_; clear hK K))
          refine hK _ ?_; clear hK K
          (refine awp_reg_end [0, 1, 4, 8, 9, 10, 11, 74, 75] fun K hK => ?_; (repeat' ((refine al_r rfl fun K' hK' => ?_); (repeat (simp only [go_sem, simprocAttr, hget, hgl, hg0, hix, hq8, hqa, hrm, hm8, h80, hby, hti, hbl, hfi, Int.toNat_natCast, List.getElem?_map, Option.map_some, List.length_map, List.drop_zero, Nat.mul_one])); ((refine hK' _ _ ?_) <;> clear hK' K'))); all_goals (refine al_nil ?_; (simp only [go_sem, simprocAttr, hget, hgl, hg0, hix, hq8, hqa, hrm, hm8, h80, hby, hti, hbl, hfi, Int.toNat_natCast, List.getElem?_map, Option.map_some, List.length_map, List.drop_zero, Nat.mul_one]); refine hK _ ?_; clear hK K))
          refine ⟨t - (i + 1), by omega, [0, 1, 4, 8, 9, 10, 11, 74, 75], [0, 1, 4], by decide, by intro q hq; exact absurd hq (Nat.not_lt_zero q), i + 1, hi2, rfl, ?_⟩
          rw [bytesN_succ, List.map_append]
          simp only [go_sem, simprocAttr, hget, hgl, hg0, hix, hq8, hqa, hrm, hm8, h80, hby, hti, hbl, hfi, Int.toNat_natCast, List.getElem?_map, Option.map_some, List.length_map, List.drop_zero, Nat.mul_one]
        · have hit : t = i := by simp at hc; omega
          subst hit
          have htB : List.take t ((bytesN h a1 t).map brow) = (bytesN h a1 t).map brow := List.take_of_length_le (by simp [bytesN])
          have hbb : ((bytesN h a1 t).map brow).mapM oneB = some (bytesN h a1 t) := bytes_map _
          have h7a : IntKind.i64.wrap ((t : Int) + 7) = ((t + 7 : Nat) : Int) := by rw [Go.Ab.wrap_small (by omega) (by omega)]; rfl
          have h7b : IntKind.i64.wrap (((t + 7 : Nat) : Int).tdiv 8) = (((t + 7) / 8 : Nat) : Int) := by
            rw [Int.tdiv_eq_ediv_of_nonneg (by omega), Go.Ab.wrap_small (by omega) (by omega)]; omega
          have h7c : IntKind.i64.wrap ((a1 : Int) + (((t + 7) / 8 : Nat) : Int)) = ((a1 + (t + 7) / 8 : Nat) : Int) := by rw [Go.Ab.wrap_small (by omega) (by omega)]; rfl
          generalize hA2 : a1 + (t + 7) / 8 = a2 at *
          have hAp : IntKind.i64.wrap ((a2 : Int) + (p : Int)) = ((a2 + p : Nat) : Int) := by rw [Go.Ab.wrap_small (by omega) (by omega)]; rfl
          have ha0 : (0 : Int) ≤ (a2 : Int) := Int.natCast_nonneg _
          have ha01 : (0 : Int) ≤ ((a2 + p : Nat) : Int) := Int.natCast_nonneg _
          have ha3 : ((a2 + p : Nat) : Int) ≤ (h.length : Int) := by omega
          have ha4 : (a2 : Int) ≤ ((a2 + p : Nat) : Int) := by omega
          have hrw := wrow1 h
          obtain ⟨P, hP⟩ : ∃ P, P = (h.drop a2).take p := ⟨_, rfl⟩
          have hPl : P.length = p := by rw [hP]; exact cut_len h (by omega)
          have hPw := wrow1 P
          have hdt : List.drop a2 (List.take (a2 + p) (h.map wrow)) = P.map wrow := by rw [hP, List.drop_take, Nat.add_sub_cancel_left, List.map_take, List.map_drop]
          have hPt : List.take p (P.map wrow) = P.map wrow := List.take_of_length_le (by simp [hPl])
          have hPf : p * 8 ≤ 140737488355328 := by omega

          refine awp_exit ?_
          clear hK
          refine hK _ ?_; clear hK K
          (refine awp_reg_seq [0, 1, 4, 9, 10] fun K hK => ?_; (repeat' ((first | refine al_r rfl fun K' hK' => ?_ | refine al_d rfl fun K' hK' => ?_); (repeat (first | (simp only [go_sem, simprocAttr, List.length_map, htB, hbb, h7a, h7b, h7c, List.drop_zero]) | refine AS.mk ?_)); ((first | refine hK' _ _ ?_ | refine ⟨?_, hK' _ _ ?_⟩) <;> clear hK' K' <;> (first | (show alist _ _ _ _ _ _; skip) | (simp; done))))); all_goals (refine al_nil ?_; (simp only [go_sem, simprocAttr, List.length_map, htB, hbb, h7a, h7b, h7c, List.drop_zero]); refine hK _ ?_; clear hK K))
          (refine awp_frz [0, 1, 4, 9, 10] [0, 1] (by decide) (by (simp; done)) ?_; simp only [go_sem, simprocAttr, List.length_map, htB, hbb, h7a, h7b, h7c, List.drop_zero])
          refine awp_born_box 1 4 1 rfl rfl ?_
          simp only [go_sem, simprocAttr, List.length_map, htB, hbb, h7a, h7b, h7c, List.drop_zero]

          refine awp_draw_seq (by kernel_rfl) [0, 1, 4, 9, 10] fun K hK => ?_
          have key : K (⟨ofL [(0, words h), (1, iD a2), (4, .ptr 0 0 0), (9, iD p), (10, .ptr 1 0 0)], [.box [iD 0, iD 0, iD 0, .p (.lit (.string ByteArray.empty)), .nil], .box [iD n, iD k, iD num, .p (.lit (.string (pushB (bytesN h a1 t)))), .ref 3 0 p], .dead, .row 1 (P.map wrow)], 0⟩) := by
            refine hK _ ?_; clear hK K
            obtain ⟨o, ho⟩ : ∃ o : Obj, o = ⟨n, k, num, pushB (bytesN h a1 t), P⟩ := ⟨_, rfl⟩
            have hoo : objO h n k num t p a1 = o := by unfold objO; rw [ho, hA2, hP]
            have hR2 : R0 = if ((putS [] o).2.2 != 0) || !(listEq eqI (putS [] o).1 ((h.drop n).take (a2 + p - n))) then (z0, 3) else (o, 0) := by rw [hR1, hoo]; rfl
            have hxl := put_len [] o (by simp)
            have heq := equalW (putS [] o).1 ((h.drop n).take (a2 + p - n)) (by simp at hxl; simp [maxLen]; omega)
            obtain ⟨hg, hle, hso⟩ : (putS [] o).2.2 = 0 ∧ listEq eqI (putS [] o).1 ((h.drop n).take (a2 + p - n)) = true ∧ oo = o := by
              rw [hfin] at hR2
              split at hR2
              · cases (Prod.mk.inj hR2).2
              · rename_i hcc
                simp only [Bool.or_eq_true, not_or, bne_iff_ne, ne_eq, Decidable.not_not, Bool.not_eq_true', Bool.not_eq_false] at hcc
                exact ⟨hcc.1, hcc.2, (Prod.mk.inj hR2).1⟩
            subst hso
            have hpu1 := putO [] oo (by simp) hg
            have hop : oo.parts.length = p := by rw [ho]; exact hPl
            have htp : List.take p (oo.parts.map wrow) = oo.parts.map wrow := List.take_of_length_le (by simp [hop])
            unfold objD words at hpu1
            rw [← htp] at hpu1
            have hpu := hpu1
            clear hpu1
            rw [hle] at heq
            generalize (putS [] oo).1 = x at hpu heq
            have hpuF := flat_w x
            have htx : List.take x.length (x.map wrow) = x.map wrow := List.take_of_length_le (by simp)
            unfold words at heq
            have heq2 : ACallP Try.prog 18 [.p (.sl (List.take x.length (x.map wrow))), .p (.sl (((h.drop n).take (a2 + p - n)).map wrow))] (bD true) := by rw [htx]; exact heq
            have hdn : List.drop n (List.take (a2 + p) (h.map wrow)) = ((h.drop n).take (a2 + p - n)).map wrow := by rw [List.drop_take, List.map_take, List.map_drop]
            have hnle : (n : Int) ≤ ((a2 + p : Nat) : Int) := by omega
            have hov : oo.at_ = n ∧ oo.kind = k ∧ oo.num = num ∧ oo.text = pushB (bytesN h a1 t) ∧ oo.parts = P := by rw [ho]; exact ⟨rfl, rfl, rfl, rfl, rfl⟩
            obtain ⟨v1, v2, v3, v4, v5⟩ := hov
            clear ho hoo hR1
            rw [← v1, ← v2, ← v3, ← v4, ← v5]
            refine awp_seq_k fun K hK => ?_

            (refine awp_reg_seq [0, 1, 4, 9, 10, 13, 15] fun K hK => ?_; (repeat' ((refine al_r rfl fun K' hK' => ?_); (repeat (simp only [go_sem, simprocAttr, List.length_map])); (first | ((refine hK' _ _ ?_) <;> clear hK' K') | ((show AC _ _ (D.fn 17 _) _ _); refine acall_gn (f := 17) Try.call17 hpu rfl (by simp [D.all, D.allL, flatL, flatPV]) (hfo := hpuF) ?_; (simp only [go_sem, simprocAttr, List.length_map]); refine hK' _ _ ?_; clear hK' K')))); all_goals (refine al_nil ?_; (simp only [go_sem, simprocAttr, List.length_map]); refine hK _ ?_; clear hK K))

            (refine awp_reg_seq [4, 10, 131] fun K hK => ?_; (repeat' ((first | refine al_r rfl fun K' hK' => ?_ | refine al_t rfl rfl fun K' hK' => ?_); (repeat (simp only [go_sem, simprocAttr, List.length_map, v1, hdn, hn0, hnle, hAp, ha01, ha3, Int.toNat_natCast, bne_self_eq_false])); (first | ((first | refine hK' _ _ ?_ | refine ⟨?_, hK' _ _ ?_⟩) <;> clear hK' K' <;> (first | (show alist _ _ _ _ _ _; skip) | assumption)) | ((show AC _ _ (D.fn 18 _) _ _); refine acall_g (f := 18) (e := rfl) (hr := rfl) (hf := by simp [D.all, D.allL, flatL, flatPV]) (k := hK' _ _ ?_) (hc := Try.call18) (h := heq2); clear hK' K')))); all_goals (refine al_nil ?_; (simp only [go_sem, simprocAttr, List.length_map, v1, hdn, hn0, hnle, hAp, ha01, ha3, Int.toNat_natCast, bne_self_eq_false]); refine hK _ ?_; clear hK K))
            refine awp_if (_) rfl (fun hc => ?_) (fun hc => ?_)
            · cases hc
            · refine awp_skip ?_
              refine hK _ ?_; clear hK K

              (refine awp_reg_seq [4, 5] fun K hK => ?_; (repeat' ((first | refine al_r rfl fun K' hK' => ?_ | refine al_d rfl fun K' hK' => ?_); (repeat (first | (simp only [go_sem, simprocAttr, List.length_map, v1]) | refine AS.mk ?_)); ((first | refine hK' _ _ ?_ | refine ⟨?_, hK' _ _ ?_⟩) <;> clear hK' K' <;> (first | (show alist _ _ _ _ _ _; skip) | (simp; done))))); all_goals (refine al_nil ?_; (simp only [go_sem, simprocAttr, List.length_map, v1]); refine hK _ ?_; clear hK K))
              refine awp_ret (hR _ _ (.inl rfl) rfl ⟨[3], (.tup [.agg [iD oo.at_, iD oo.kind, iD oo.num, .p (.lit (.string oo.text)), .ref 3 0 p], iD 0]), by decide, by simp only [List.length_cons, List.length_nil]; decide, ?_, ?_⟩)
              · simp only [go_sem, simprocAttr, List.length_map, v1, v1]
              · refine ⟨?_, ?_⟩ <;> simp only [go_sem, simprocAttr, List.length_map, v1, hop]

          ((refine ah_r 0 rfl (by kernel_rfl) rfl fun K' hK' => ?_); (simp only [go_sem, simprocAttr, List.length_map, hdt, hPl, hPt, hPf, hAp, Nat.zero_add, ha0, ha01, ha3, ha4, Int.toNat_natCast, List.take_nil, List.take_zero, List.nil_append]); ((refine hK' _ ?_); clear hK' K'))
          ((refine ah_r 2 rfl (by kernel_rfl) rfl fun K' hK' => ?_); (simp only [go_sem, simprocAttr, List.length_map, hdt, hPl, hPt, hPf, hAp, Nat.zero_add, ha0, ha01, ha3, ha4, Int.toNat_natCast, List.take_nil, List.take_zero, List.nil_append]); ((refine hK' _ ?_); clear hK' K'))
          ((refine ah_r 3 rfl (by kernel_rfl) rfl fun K' hK' => ?_); (simp only [go_sem, simprocAttr, List.length_map, hdt, hPl, hPt, hPf, hAp, Nat.zero_add, ha0, ha01, ha3, ha4, Int.toNat_natCast, List.take_nil, List.take_zero, List.nil_append]); ((refine hK' _ ?_); clear hK' K'))
          ((refine ah_r 4 rfl (by kernel_rfl) rfl fun K' hK' => ?_); (simp only [go_sem, simprocAttr, List.length_map, hdt, hPl, hPt, hPf, hAp, Nat.zero_add, ha0, ha01, ha3, ha4, Int.toNat_natCast, List.take_nil, List.take_zero, List.nil_append]); ((refine hK' _ ?_); clear hK' K'))
          ((refine ah_r 5 rfl (by kernel_rfl) rfl fun K' hK' => ?_); (simp only [go_sem, simprocAttr, List.length_map, hdt, hPl, hPt, hPf, hAp, Nat.zero_add, ha0, ha01, ha3, ha4, Int.toNat_natCast, List.take_nil, List.take_zero, List.nil_append]); ((refine hK' _ ?_); clear hK' K'))
          ((refine ah_r 6 rfl (by kernel_rfl) rfl fun K' hK' => ?_); (simp only [go_sem, simprocAttr, List.length_map, hdt, hPl, hPt, hPf, hAp, Nat.zero_add, ha0, ha01, ha3, ha4, Int.toNat_natCast, List.take_nil, List.take_zero, List.nil_append]); ((refine hK' _ ?_); clear hK' K'))
          refine ah_two 1 7 rfl rfl (by kernel_rfl) ?_ ?_
          · ((repeat' ((refine al_r rfl fun K' hK' => ?_); (repeat (simp only [go_sem, simprocAttr, List.length_map, hdt, hPl, hPt, hPf, hAp, Nat.zero_add, ha0, ha01, ha3, ha4, Int.toNat_natCast, List.take_nil, List.take_zero, List.nil_append])); ((refine hK' _ _ ?_) <;> clear hK' K'))); all_goals refine al_nil ?_)
            (refine ah_one 7 rfl (by kernel_rfl) ?_; (repeat' ((refine al_r rfl fun K' hK' => ?_); (repeat (simp only [go_sem, simprocAttr, List.length_map, hdt, hPl, hPt, hPf, hAp, Nat.zero_add, ha0, ha01, ha3, ha4, Int.toNat_natCast, List.take_nil, List.take_zero, List.nil_append])); ((refine ⟨?_, hK' _ _ ?_⟩) <;> clear hK' K' <;> (first | (show alist _ _ _ _ _ _; skip) | assumption)))); all_goals refine al_nil ?_)
            (refine ah_one 8 rfl (by kernel_rfl) ?_; (repeat' ((refine al_r rfl fun K' hK' => ?_); (repeat (first | (simp only [go_sem, simprocAttr, List.length_map, hdt, hPl, hPt, hPf, hAp, Nat.zero_add, ha0, ha01, ha3, ha4, Int.toNat_natCast, List.take_nil, List.take_zero, List.nil_append]) | refine AAp.grow ?_)); ((refine ⟨?_, hK' _ _ ?_⟩) <;> clear hK' K' <;> (first | (show alist _ _ _ _ _ _; skip) | assumption)))); all_goals refine al_nil ?_)
            ((refine ah_r 9 rfl (by kernel_rfl) rfl fun K' hK' => ?_); (simp only [go_sem, simprocAttr, List.length_map, hdt, hPl, hPt, hPf, hAp, Nat.zero_add, ha0, ha01, ha3, ha4, Int.toNat_natCast, List.take_nil, List.take_zero, List.nil_append]); ((refine hK' _ ?_); clear hK' K'))
            (refine ah_one 10 rfl (by kernel_rfl) ?_; (repeat' ((refine al_d rfl fun K' hK' => ?_); (repeat (first | (simp only [go_sem, simprocAttr, List.length_map, hdt, hPl, hPt, hPf, hAp, Nat.zero_add, ha0, ha01, ha3, ha4, Int.toNat_natCast, List.take_nil, List.take_zero, List.nil_append]) | refine AS.mk ?_)); ((refine ⟨?_, hK' _ _ ?_⟩) <;> clear hK' K' <;> (first | (show alist _ _ _ _ _ _; skip) | (simp; done))))); all_goals refine al_nil ?_)
            (refine ah_done (by kernel_rfl) ?_; (simp only [go_sem, simprocAttr, List.length_map, hdt, hPl, hPt, hPf, hAp, Nat.zero_add, ha0, ha01, ha3, ha4, Int.toNat_natCast, List.take_nil, List.take_zero, List.nil_append]); exact key)
          · ((repeat' ((refine al_r rfl fun K' hK' => ?_); (repeat (simp only [go_sem, simprocAttr, List.length_map, hdt, hPl, hPt, hPf, hAp, Nat.zero_add, ha0, ha01, ha3, ha4, Int.toNat_natCast, List.take_nil, List.take_zero, List.nil_append])); ((refine ⟨?_, hK' _ _ ?_⟩) <;> clear hK' K' <;> (first | (show alist _ _ _ _ _ _; skip) | assumption)))); all_goals refine al_nil ?_)
            (refine ah_one 1 rfl (by kernel_rfl) ?_; (repeat' ((refine al_r rfl fun K' hK' => ?_); (repeat (simp only [go_sem, simprocAttr, List.length_map, hdt, hPl, hPt, hPf, hAp, Nat.zero_add, ha0, ha01, ha3, ha4, Int.toNat_natCast, List.take_nil, List.take_zero, List.nil_append])); ((refine hK' _ _ ?_) <;> clear hK' K'))); all_goals refine al_nil ?_)
            (refine ah_one 8 rfl (by kernel_rfl) ?_; (repeat' ((refine al_r rfl fun K' hK' => ?_); (repeat (first | (simp only [go_sem, simprocAttr, List.length_map, hdt, hPl, hPt, hPf, hAp, Nat.zero_add, ha0, ha01, ha3, ha4, Int.toNat_natCast, List.take_nil, List.take_zero, List.nil_append]) | refine AAp.grow ?_)); ((refine ⟨?_, hK' _ _ ?_⟩) <;> clear hK' K' <;> (first | (show alist _ _ _ _ _ _; skip) | assumption)))); all_goals refine al_nil ?_)
            ((refine ah_r 9 rfl (by kernel_rfl) rfl fun K' hK' => ?_); (simp only [go_sem, simprocAttr, List.length_map, hdt, hPl, hPt, hPf, hAp, Nat.zero_add, ha0, ha01, ha3, ha4, Int.toNat_natCast, List.take_nil, List.take_zero, List.nil_append]); ((refine hK' _ ?_); clear hK' K'))
            (refine ah_one 10 rfl (by kernel_rfl) ?_; (repeat' ((refine al_d rfl fun K' hK' => ?_); (repeat (first | (simp only [go_sem, simprocAttr, List.length_map, hdt, hPl, hPt, hPf, hAp, Nat.zero_add, ha0, ha01, ha3, ha4, Int.toNat_natCast, List.take_nil, List.take_zero, List.nil_append]) | refine AS.mk ?_)); ((refine ⟨?_, hK' _ _ ?_⟩) <;> clear hK' K' <;> (first | (show alist _ _ _ _ _ _; skip) | (simp; done))))); all_goals refine al_nil ?_)
            (refine ah_done (by kernel_rfl) ?_; (simp only [go_sem, simprocAttr, List.length_map, hdt, hPl, hPt, hPf, hAp, Nat.zero_add, ha0, ha01, ha3, ha4, Int.toNat_natCast, List.take_nil, List.take_zero, List.nil_append]); exact key)

      (refine awp_reg_tov [0, 1, 4, 8, 9, 10, 65] [(65, bD (k == 1 || k == 4))] (h := ?_) (k := ?_); · ((repeat' (first | ((first | refine al_r rfl fun K' hK' => ?_ | refine al_t rfl rfl fun K' hK' => ?_); (repeat (simp only [go_sem, simprocAttr, List.length_map, hn1])); ((refine hK' _ _ ?_) <;> clear hK' K')) | refine al_e rfl rfl ?_ | ((fail_if_success (refine al_t rfl rfl fun K' hK' => ?_)); refine al_s _ rfl rfl rfl (fun hb => ?_) (fun hb => ?_)))); all_goals (refine al_nil ?_; simp only [go_sem, simprocAttr, List.length_map, hn1, *, Bool.and_true, Bool.and_false, Bool.true_and, Bool.false_and, Bool.or_true, Bool.true_or, Bool.or_false, Bool.false_or, Bool.not_true, Bool.not_false, Bool.false_eq_true]))); intro K hK; (simp only [go_sem, simprocAttr, List.length_map, hn1]); refine hK _ ?_; clear hK K
      refine awp_if (numK k) rfl (fun hc => ?_) (fun hc => ?_)
      · have hrm : roomN k t p = 1 + (t + 7) / 8 + p + 1 := by unfold roomN; rw [if_pos hc]
        obtain ⟨v, hv1⟩ := get_of_lt (l := h) (i := n + 1) (by omega)
        have hvl := lt_of_get hv1
        have hRa : R0 = atO h n (objO h n k (IntKind.i64.wrap v) t p (n + 2)) (n + 2 + (t + 7) / 8 + p - n) := by
          rw [hv]; unfold atR; rw [if_pos hc, show h.getD (n + 1) 0 = v by simp [List.getD, hv1]]
        have hn2 : IntKind.i64.wrap (((n + 1 : Nat) : Int) + 1) = ((n + 2 : Nat) : Int) := by
          simp [maxLen] at hlen
          rw [Go.Ab.wrap_small (by omega) (by omega)]; rfl
        have hn10 : (0 : Int) ≤ ((n + 1 : Nat) : Int) := Int.natCast_nonneg _

        (refine awp_reg_seq [0, 1, 4, 8, 9, 10] fun K hK => ?_; (repeat' ((first | refine al_r rfl fun K' hK' => ?_ | refine al_d rfl fun K' hK' => ?_); (repeat (first | (simp only [go_sem, simprocAttr, List.length_map, hv1, hvl, hn2, hn10, Int.toNat_natCast, List.getElem?_map, Option.map_some]) | refine AS.mk ?_)); ((first | refine hK' _ _ ?_ | refine ⟨?_, hK' _ _ ?_⟩) <;> clear hK' K' <;> (first | (show alist _ _ _ _ _ _; skip) | (simp; done))))); all_goals (refine al_nil ?_; (simp only [go_sem, simprocAttr, List.length_map, hv1, hvl, hn2, hn10, Int.toNat_natCast, List.getElem?_map, Option.map_some]); refine hK _ ?_; clear hK K))
        (refine awp_reg_end [0, 1, 4, 8, 9, 10] fun K hK => ?_; (repeat' ((refine al_r rfl fun K' hK' => ?_); (repeat (simp only [go_sem, simprocAttr, List.length_map, hv1, hvl, hn2, hn10, Int.toNat_natCast, List.getElem?_map, Option.map_some])); ((refine hK' _ _ ?_) <;> clear hK' K'))); all_goals (refine al_nil ?_; (simp only [go_sem, simprocAttr, List.length_map, hv1, hvl, hn2, hn10, Int.toNat_natCast, List.getElem?_map, Option.map_some]); refine hK _ ?_; clear hK K))
        (refine hcut _ [0, 1, 4, 8, 9, 10] [0, 1] (by decide) (by intro q hq; exact absurd hq (Nat.not_lt_zero q)) ?_; simp only [go_sem, simprocAttr, List.length_map, hv1, hvl, hn2, hn10, Int.toNat_natCast, List.getElem?_map, Option.map_some]; (exact key (n + 2) _ (by omega) (by omega) hRa))
      · have hrm : roomN k t p = 1 + (t + 7) / 8 + p := by unfold roomN; rw [if_neg (by rw [hc]; simp)]; rfl
        have hRb : R0 = atO h n (objO h n k 0 t p (n + 1)) (n + 1 + (t + 7) / 8 + p - n) := by
          rw [hv]; unfold atR; rw [if_neg (by rw [hc]; simp)]

        refine awp_skip ?_
        (refine hcut _ [0, 1, 4, 8, 9, 10] [0, 1] (by decide) (by intro q hq; exact absurd hq (Nat.not_lt_zero q)) ?_; simp only [go_sem, simprocAttr, List.length_map]; (exact key (n + 1) 0 (by omega) (by omega) hRb))
end Go.Proofs.Ytagphggcdmjlpaa.P

/- Lists of numbers that keep what was handed in: four objects, five. No program is named here. -/
namespace Go.Ab
theorem kept4 {ids : List Nat} {n b c : Nat} (h : ids = [0, 1, n, 3, c]) (hb : b ≤ n) : ∀ k, k < 4 → ids[k]? = some k ∨ ∃ j, ids[k]? = some j ∧ b ≤ j := by
  subst h
  intro k hk
  match k with
  | 0 => exact .inl rfl
  | 1 => exact .inl rfl
  | 2 => exact .inr ⟨n, rfl, hb⟩
  | 3 => exact .inl rfl

theorem kept0123 {l : List Nat} : ∀ k, k < 4 → (0 :: 1 :: 2 :: 3 :: l)[k]? = some k := by
  intro k hk
  match k with
  | 0 => rfl
  | 1 => rfl
  | 2 => rfl
  | 3 => rfl
end Go.Ab

/- Carry's put: contracts. -/
namespace Go.Proofs.Ytagphggcdmjlpaa.P
open Go.Ab Go.Proofs.Ytagphggcdmjlpaa.T

/-- What a copier has: what is left, what it copies into, and the words that stand for places. -/
abbrev CT := List Int × List Int × List (Int × Int)

def embW (m : List (Int × Int)) : List (Value × PV) := m.map fun e => (.int .i64 e.1, .lit (.int .u64 e.2))
theorem embW_keys (m : List (Int × Int)) : intKeys .i64 (embW m) := fun e he => by
  obtain ⟨x, _, rfl⟩ := List.mem_map.1 he
  exact ⟨x.1, rfl⟩
theorem mget_embW : ∀ (m : List (Int × Int)) (n : Int), mget (embW m) n = (lk m n).map fun t => .lit (.int .u64 t)
  | [], _ => rfl
  | (a, b) :: l, n => by
    show (if a = n then some (PV.lit (.int .u64 b)) else mget (embW l) n) = _
    unfold lk
    rw [mget_embW l n]
    split <;> rfl
/-- A list, written to at a place. -/
def ups : List (Int × Int) → Int → Int → List (Int × Int)
  | [], a, x => [(a, x)]
  | (b, y) :: l, a, x => if b = a then (b, x) :: l else (b, y) :: ups l a x
theorem mset_embW : ∀ (m : List (Int × Int)) (a x : Int), mset .i64 a (.lit (.int .u64 x)) (embW m) = embW (ups m a x)
  | [], _, _ => rfl
  | (c, d) :: l, a, b => by
    show (if c = a then _ else (Value.int .i64 c, PV.lit (.int .u64 d)) :: mset .i64 a (.lit (.int .u64 b)) (embW l)) = _
    unfold ups
    rw [mset_embW l a b]
    split <;> rfl

abbrev cpD (g : List Int) (n m i : Nat) : Ob := .box [words g, .ref 1 0 n, .ref i 0 m, .mp 3]
abbrev cpA (g : List Int) (S : CT) : List Ob := [cpD g S.1.length S.2.1.length 2, .row 1 (S.1.map wrow), .row 1 (S.2.1.map wrow), .map (embW S.2.2)]
abbrev cpB (g : List Int) (S : CT) : List Ob := [cpD g S.1.length S.2.1.length 4, .row 1 (S.1.map wrow), .dead, .map (embW S.2.2), .row 1 (S.2.1.map wrow)]

/-- What is left, when an object went over: a cell that had something is an int. -/
def leftK (l : List Int) (o : Obj) : List Int := if o.kind == 5 && (o.parts.length : Int) == 1 then over l o.at_.toNat (([1, 0] : List Int).take (l.length - o.at_.toNat)) else l

theorem map_over {α β : Type} (f : α → β) (xs ys : List α) (k : Nat) : (over xs k ys).map f = over (xs.map f) k (ys.map f) := by
  simp only [over, List.map_append, List.map_take, List.map_drop, List.length_map]

theorem putBig : ACallP Try.prog 17 [.nil, .agg [iD 0, iD 1, iD 0, .p (.lit (.string ByteArray.empty)), .nil]] (.tup [words [1, 0], iD 0, iD 0]) := by
  have h := put [] ⟨0, 1, 0, ByteArray.empty, []⟩ (by simp)
  rw [show putS [] ⟨0, 1, 0, ByteArray.empty, []⟩ = ([1, 0], 0, 0) by kernel_rfl] at h
  exact ACallP.soft h rfl


theorem putBad (g : List Int) (S : CT) (o : Obj) (e : Int) (he : (e != 0) = true) (hpu0 : ACallP Try.prog 17 [words S.2.1, objD o] (.tup [words [], iD 0, iD e])) :
    ACalls Try.prog 83 [.ptr 0 0 0, objD o] (cpA g S) (fun r obs' => r = .tup [wD 0, iD e] ∧ obs' = cpB g S) := by
  have htS : List.take S.2.1.length (S.2.1.map wrow) = S.2.1.map wrow := List.take_of_length_le (by simp)
  unfold words at hpu0
  rw [← htS] at hpu0
  have hpu : ACallP Try.prog 17 [.p (.sl (List.take S.2.1.length (S.2.1.map wrow))), objD o] (.tup [.p (.sl []), iD 0, iD e]) := hpu0
  refine acallm_fn [4, 5] Try.func83 rfl rfl Try.ntmps83 (by simp) (by simp) fun R hR => ?_
  (refine awp_reg_seq [0, 3] fun K hK => ?_; (repeat' ((refine al_r rfl fun K' hK' => ?_); (repeat (simp only [go_sem, simprocAttr, he])); ((refine hK' _ _ ?_) <;> clear hK' K'))); all_goals (refine al_nil ?_; (simp only [go_sem, simprocAttr, he]); refine hK _ ?_; clear hK K))
  (refine awp_frz [0, 3] [0, 1, 2, 3] (by decide) (by (exact kept0123)) ?_; simp only [go_sem, simprocAttr, he])
  (refine awp_mv [0, 3] [0, 1, 9, 3, 2] (by decide) (kept4 rfl (by simp)) ?_; simp only [go_sem, simprocAttr, he])
  refine awp_draw_seq (by kernel_rfl) [0, 3, 6, 7, 8] fun K hK => ?_
  ((refine ah_r 0 rfl (by kernel_rfl) rfl fun K' hK' => ?_); (simp only [go_sem, simprocAttr, he]); ((refine hK' _ ?_); clear hK' K'))
  ((refine ah_r 4 rfl (by kernel_rfl) rfl fun K' hK' => ?_); (simp only [go_sem, simprocAttr, he]); ((refine hK' _ ?_); clear hK' K'))
  (refine ah_one 1 rfl (by kernel_rfl) ?_; (repeat' ((refine al_r rfl fun K' hK' => ?_); (repeat (simp only [go_sem, simprocAttr, he])); ((refine hK' _ _ ?_) <;> clear hK' K'))); all_goals refine al_nil ?_)
  ((refine ah_r 2 rfl (by kernel_rfl) rfl fun K' hK' => ?_); (simp only [go_sem, simprocAttr, he]); ((refine hK' _ ?_); clear hK' K'))
  (refine ah_one 3 rfl (by kernel_rfl) ?_; (repeat' ((refine al_r rfl fun K' hK' => ?_); (repeat (simp only [go_sem, simprocAttr, he])); ((refine hK' _ _ ?_) <;> clear hK' K'))); all_goals refine al_nil ?_)
  (refine ah_one 5 rfl (by kernel_rfl) ?_; (repeat' ((refine al_r rfl fun K' hK' => ?_); (repeat (simp only [go_sem, simprocAttr, he])); ((show AC _ _ (D.fn 17 _) _ _); refine acall_g (f := 17) (e := rfl) (hr := rfl) (hf := by simp [D.all, D.allL, flatL, flatPV]) (k := hK' _ _ ?_) (hc := Try.call17) (h := hpu); clear hK' K'))); all_goals refine al_nil ?_)
  ((refine ah_r 6 rfl (by kernel_rfl) rfl fun K' hK' => ?_); (simp only [go_sem, simprocAttr, he]); ((refine hK' _ ?_); clear hK' K'))
  ((refine ah_r 7 rfl (by kernel_rfl) rfl fun K' hK' => ?_); (simp only [go_sem, simprocAttr, he]); ((refine hK' _ ?_); clear hK' K'))
  ((refine ah_r 8 rfl (by kernel_rfl) rfl fun K' hK' => ?_); (simp only [go_sem, simprocAttr, he]); ((refine hK' _ ?_); clear hK' K'))
  ((refine ah_r 9 rfl (by kernel_rfl) rfl fun K' hK' => ?_); (simp only [go_sem, simprocAttr, he]); ((refine hK' _ ?_); clear hK' K'))
  ((refine ah_r 10 rfl (by kernel_rfl) rfl fun K' hK' => ?_); (simp only [go_sem, simprocAttr, he]); ((refine hK' _ ?_); clear hK' K'))
  ((refine ah_r 11 rfl (by kernel_rfl) rfl fun K' hK' => ?_); (simp only [go_sem, simprocAttr, he]); ((refine hK' _ ?_); clear hK' K'))
  ((refine ah_r 12 rfl (by kernel_rfl) rfl fun K' hK' => ?_); (simp only [go_sem, simprocAttr, he]); ((refine hK' _ ?_); clear hK' K'))
  (refine ah_done (by kernel_rfl) ?_; (simp only [go_sem, simprocAttr, he]); refine hK _ ?_; clear hK K)
  refine awp_seq_k fun K hK => ?_
  (refine awp_reg_seq [0, 3, 6, 7, 8, 24] fun K hK => ?_; (repeat' ((refine al_r rfl fun K' hK' => ?_); (repeat (simp only [go_sem, simprocAttr, he])); ((refine hK' _ _ ?_) <;> clear hK' K'))); all_goals (refine al_nil ?_; (simp only [go_sem, simprocAttr, he]); refine hK _ ?_; clear hK K))
  refine awp_if (_) rfl (fun hc => ?_) (fun hc => ?_)
  · (refine awp_reg_seq [4, 5] fun K hK => ?_; (repeat' ((refine al_r rfl fun K' hK' => ?_); (repeat (simp only [go_sem, simprocAttr, he])); ((refine hK' _ _ ?_) <;> clear hK' K'))); all_goals (refine al_nil ?_; (simp only [go_sem, simprocAttr, he]); refine hK _ ?_; clear hK K))
    refine awp_ret (hR _ _ [0, 1, 2, 3, 4] (.inl rfl) rfl (by decide) (by simp only [List.length_cons, List.length_nil]; decide) ?_)
    refine ⟨?_, ?_⟩ <;> simp only [go_sem, simprocAttr, he, cpB, cpD]
  · cases hc


set_option maxRecDepth 100000 in
theorem putOk (g : List Int) (S : CT) (o : Obj) (n : Nat) (x e2 : Int) (hoa : o.at_ = n) (hnl : n ≤ S.1.length) (hS : S.1.length ≤ 4000) (hlen : S.2.1.length ≤ maxLen) (hg : (putS S.2.1 o).2.2 = 0) (hwo : ACallP Try.prog 57 [iD 4, iD S.2.1.length] (.tup [wD x, iD e2])) :
    ACalls Try.prog 83 [.ptr 0 0 0, objD o] (cpA g S) (fun r obs' => r = .tup [wD x, iD e2] ∧ obs' = cpB g (leftK S.1 o, (putS S.2.1 o).1, ups S.2.2 o.at_ x)) := by
  have htS : List.take S.2.1.length (S.2.1.map wrow) = S.2.1.map wrow := List.take_of_length_le (by simp)
  have hpu := putO S.2.1 o hlen hg
  unfold words at hpu
  rw [← htS] at hpu
  generalize putS S.2.1 o = X at hpu
  have hpuF := flat_w X.1
  have hkeys := embW_keys S.2.2
  have hms := mset_embW S.2.2 o.at_ x
  have hn0 : (0 : Int) ≤ (n : Int) := Int.natCast_nonneg n
  have hnl2 : (n : Int) ≤ (S.1.length : Int) := by omega
  have hsz : ∀ h, (Try.prog.types[34]'h).size = 1 := fun h => by kernel_rfl
  have hsz1 := hsz (of_decide_eq_true (by kernel_rfl))
  obtain ⟨Y, hY⟩ : ∃ Y, Y = leftK S.1 o := ⟨_, rfl⟩
  rw [← hY]
  unfold leftK at hY
  rw [hoa, Int.toNat_natCast] at hY
  obtain ⟨E, hE⟩ : ∃ E, (o.kind == 5) = E := ⟨_, rfl⟩
  obtain ⟨G, hG⟩ : ∃ G, ((o.parts.length : Int) == 1) = G := ⟨_, rfl⟩
  rw [hE, hG] at hY
  have hYl : Y.length = S.1.length := by
    rw [hY]
    split
    · exact over_length (by rw [List.length_take]; simp; omega)
    · rfl
  refine acallm_fn [4, 5] Try.func83 rfl rfl Try.ntmps83 (by simp) (by simp) fun R hR => ?_
  (refine awp_reg_seq [0, 3] fun K hK => ?_; (repeat' ((refine al_r rfl fun K' hK' => ?_); (repeat (simp only [go_sem, simprocAttr, bne_self_eq_false])); ((refine hK' _ _ ?_) <;> clear hK' K'))); all_goals (refine al_nil ?_; (simp only [go_sem, simprocAttr, bne_self_eq_false]); refine hK _ ?_; clear hK K))
  (refine awp_frz [0, 3] [0, 1, 2, 3] (by decide) (by (exact kept0123)) ?_; simp only [go_sem, simprocAttr, bne_self_eq_false])
  (refine awp_mv [0, 3] [0, 1, 9, 3, 2] (by decide) (kept4 rfl (by simp)) ?_; simp only [go_sem, simprocAttr, bne_self_eq_false])

  refine awp_draw_seq (by kernel_rfl) [0, 3, 6, 7, 8] fun K hK => ?_
  ((refine ah_r 0 rfl (by kernel_rfl) rfl fun K' hK' => ?_); (simp only [go_sem, simprocAttr, List.length_map, bne_self_eq_false]); ((refine hK' _ ?_); clear hK' K'))
  ((refine ah_r 4 rfl (by kernel_rfl) rfl fun K' hK' => ?_); (simp only [go_sem, simprocAttr, List.length_map, bne_self_eq_false]); ((refine hK' _ ?_); clear hK' K'))
  (refine ah_one 1 rfl (by kernel_rfl) ?_; (repeat' ((refine al_r rfl fun K' hK' => ?_); (repeat (simp only [go_sem, simprocAttr, List.length_map, bne_self_eq_false])); ((refine hK' _ _ ?_) <;> clear hK' K'))); all_goals refine al_nil ?_)
  ((refine ah_r 2 rfl (by kernel_rfl) rfl fun K' hK' => ?_); (simp only [go_sem, simprocAttr, List.length_map, bne_self_eq_false]); ((refine hK' _ ?_); clear hK' K'))
  (refine ah_one 3 rfl (by kernel_rfl) ?_; (repeat' ((refine al_r rfl fun K' hK' => ?_); (repeat (simp only [go_sem, simprocAttr, List.length_map, bne_self_eq_false])); ((refine hK' _ _ ?_) <;> clear hK' K'))); all_goals refine al_nil ?_)
  (refine ah_one 5 rfl (by kernel_rfl) ?_; (repeat' ((refine al_r rfl fun K' hK' => ?_); (repeat (simp only [go_sem, simprocAttr, List.length_map, bne_self_eq_false])); ((show AC _ _ (D.fn 17 _) _ _); refine acall_gn (f := 17) Try.call17 hpu rfl (by simp [D.all, D.allL, flatL, flatPV]) (hfo := hpuF) ?_; (simp only [go_sem, simprocAttr, List.length_map, bne_self_eq_false]); refine hK' _ _ ?_; clear hK' K'))); all_goals refine al_nil ?_)
  ((refine ah_r 6 rfl (by kernel_rfl) rfl fun K' hK' => ?_); (simp only [go_sem, simprocAttr, List.length_map, bne_self_eq_false]); ((refine hK' _ ?_); clear hK' K'))
  ((refine ah_r 7 rfl (by kernel_rfl) rfl fun K' hK' => ?_); (simp only [go_sem, simprocAttr, List.length_map, bne_self_eq_false]); ((refine hK' _ ?_); clear hK' K'))
  ((refine ah_r 8 rfl (by kernel_rfl) rfl fun K' hK' => ?_); (simp only [go_sem, simprocAttr, List.length_map, bne_self_eq_false]); ((refine hK' _ ?_); clear hK' K'))
  ((refine ah_r 9 rfl (by kernel_rfl) rfl fun K' hK' => ?_); (simp only [go_sem, simprocAttr, List.length_map, bne_self_eq_false]); ((refine hK' _ ?_); clear hK' K'))
  ((refine ah_r 10 rfl (by kernel_rfl) rfl fun K' hK' => ?_); (simp only [go_sem, simprocAttr, List.length_map, bne_self_eq_false]); ((refine hK' _ ?_); clear hK' K'))
  ((refine ah_r 11 rfl (by kernel_rfl) rfl fun K' hK' => ?_); (simp only [go_sem, simprocAttr, List.length_map, bne_self_eq_false]); ((refine hK' _ ?_); clear hK' K'))
  ((refine ah_r 12 rfl (by kernel_rfl) rfl fun K' hK' => ?_); (simp only [go_sem, simprocAttr, List.length_map, bne_self_eq_false]); ((refine hK' _ ?_); clear hK' K'))
  (refine ah_done (by kernel_rfl) ?_; (simp only [go_sem, simprocAttr, List.length_map, bne_self_eq_false]); refine hK _ ?_; clear hK K)
  refine awp_seq_k fun K hK => ?_
  (refine awp_reg_seq [0, 3, 6, 7, 8, 24] fun K hK => ?_; (repeat' ((refine al_r rfl fun K' hK' => ?_); (repeat (simp only [go_sem, simprocAttr, List.length_map, bne_self_eq_false])); ((refine hK' _ _ ?_) <;> clear hK' K'))); all_goals (refine al_nil ?_; (simp only [go_sem, simprocAttr, List.length_map, bne_self_eq_false]); refine hK _ ?_; clear hK K))
  refine awp_if (_) rfl (fun hc => ?_) (fun hc => ?_)
  · cases hc
  · refine awp_skip ?_
    refine hK _ ?_; clear hK K
    (refine awp_reg_seq [0, 3, 7] fun K hK => ?_; (repeat' ((first | refine al_r rfl fun K' hK' => ?_ | refine al_d rfl fun K' hK' => ?_); (repeat (first | (simp only [go_sem, simprocAttr, List.length_map, bne_self_eq_false]) | refine AS.mk ?_)); ((first | refine hK' _ _ ?_ | refine ⟨?_, hK' _ _ ?_⟩) <;> clear hK' K' <;> (first | (show alist _ _ _ _ _ _; skip) | (simp; done))))); all_goals (refine al_nil ?_; (simp only [go_sem, simprocAttr, List.length_map, bne_self_eq_false]); refine hK _ ?_; clear hK K))
    refine awp_seq_kc fun K hK hcut => ?_
    have key : K ⟨ofL [(0, .ptr 0 0 0), (3, .rd [.lit (.int .i64 o.at_), .lit (.int .i64 o.kind), .lit (.int .i64 o.num), .lit (.string o.text), .sl (o.parts.map wrow)] 0), (7, iD S.2.1.length)], [cpD g S.1.length X.1.length 4, .row 1 (Y.map wrow), .dead, .map (embW S.2.2), .row 1 (X.1.map wrow)], 4⟩ := by
      clear hcut

      refine hK _ ?_; clear hK K
      (refine awp_reg_seq [0, 3, 8, 12] fun K hK => ?_; (repeat' ((refine al_r rfl fun K' hK' => ?_); (repeat (simp only [go_sem, simprocAttr, List.length_map, hkeys, hms])); (first | ((refine hK' _ _ ?_) <;> clear hK' K') | ((show AC _ _ (D.fn 57 _) _ _); refine acall_p (f := 57) (e := rfl) (hr := rfl) (k := hK' _ _ ?_) (hc := Try.call57) (h := hwo); clear hK' K')))); all_goals (refine al_nil ?_; (simp only [go_sem, simprocAttr, List.length_map, hkeys, hms]); refine hK _ ?_; clear hK K))
      refine awp_draw_seq (by kernel_rfl) [8, 12] fun K hK => ?_
      ((refine ah_r 0 rfl (by kernel_rfl) rfl fun K' hK' => ?_); (simp only [go_sem, simprocAttr, List.length_map, hkeys, hms]); ((refine hK' _ ?_); clear hK' K'))
      ((refine ah_r 4 rfl (by kernel_rfl) rfl fun K' hK' => ?_); (simp only [go_sem, simprocAttr, List.length_map, hkeys, hms]); ((refine hK' _ ?_); clear hK' K'))
      ((refine ah_r 5 rfl (by kernel_rfl) rfl fun K' hK' => ?_); (simp only [go_sem, simprocAttr, List.length_map, hkeys, hms]); ((refine hK' _ ?_); clear hK' K'))
      ((refine ah_r 6 rfl (by kernel_rfl) rfl fun K' hK' => ?_); (simp only [go_sem, simprocAttr, List.length_map, hkeys, hms]); ((refine hK' _ ?_); clear hK' K'))
      (refine ah_one 1 rfl (by kernel_rfl) ?_; (repeat' ((refine al_r rfl fun K' hK' => ?_); (repeat (simp only [go_sem, simprocAttr, List.length_map, hkeys, hms])); ((refine hK' _ _ ?_) <;> clear hK' K'))); all_goals refine al_nil ?_)
      ((refine ah_r 2 rfl (by kernel_rfl) rfl fun K' hK' => ?_); (simp only [go_sem, simprocAttr, List.length_map, hkeys, hms]); ((refine hK' _ ?_); clear hK' K'))
      (refine ah_one 3 rfl (by kernel_rfl) ?_; (repeat' ((refine al_r rfl fun K' hK' => ?_); (repeat (simp only [go_sem, simprocAttr, List.length_map, hkeys, hms])); ((refine hK' _ _ ?_) <;> clear hK' K'))); all_goals refine al_nil ?_)
      (refine ah_one 7 rfl (by kernel_rfl) ?_; (repeat' ((refine al_d rfl fun K' hK' => ?_); (repeat (simp only [go_sem, simprocAttr, List.length_map, hkeys, hms])); ((refine hK' _ _ ?_) <;> clear hK' K'))); all_goals refine al_nil ?_)
      (refine ah_done (by kernel_rfl) ?_; (simp only [go_sem, simprocAttr, List.length_map, hkeys, hms]); refine hK _ ?_; clear hK K)
      (refine awp_reg_seq [4, 5] fun K hK => ?_; (repeat' ((refine al_r rfl fun K' hK' => ?_); (repeat (simp only [go_sem, simprocAttr, List.length_map, hkeys, hms])); ((refine hK' _ _ ?_) <;> clear hK' K'))); all_goals (refine al_nil ?_; (simp only [go_sem, simprocAttr, List.length_map, hkeys, hms]); refine hK _ ?_; clear hK K))
      refine awp_ret (hR _ _ [0, 1, 2, 3, 4] (.inl rfl) rfl (by decide) (by simp only [List.length_cons, List.length_nil]; decide) ?_)
      refine ⟨?_, ?_⟩ <;> simp only [go_sem, simprocAttr, List.length_map, hkeys, hms, cpB, cpD, hYl]


    refine awp_reg_tov [0, 3, 7, 38] [(38, bD (E && G))] (h := ?_) (k := ?_)
    · cases E <;> cases G
      all_goals ((repeat' (first | ((first | refine al_r rfl fun K' hK' => ?_ | refine al_t rfl rfl fun K' hK' => ?_); (repeat (simp only [go_sem, simprocAttr, List.length_map, hE, hG])); ((first | refine hK' _ _ ?_ | refine ⟨?_, hK' _ _ ?_⟩) <;> clear hK' K' <;> (first | (show alist _ _ _ _ _ _; skip) | (intro s hs; cases hs; done)))) | refine al_e rfl rfl ?_)); all_goals (refine al_nil ?_; (simp only [go_sem, simprocAttr, List.length_map, hE, hG, *, Bool.and_true, Bool.and_false, Bool.true_and, Bool.false_and, Bool.or_true, Bool.true_or, Bool.or_false, Bool.false_or, Bool.not_true, Bool.not_false, Bool.false_eq_true]; done)))
    (intro K hK; (simp only [go_sem, simprocAttr, List.length_map, hE, hG]); refine hK _ ?_; clear hK K)
    refine awp_if (E && G) rfl (fun hc => ?_) (fun hc => ?_)
    · rw [if_pos hc] at hY
      have hov : over (S.1.map wrow) n (List.take (S.1.length - n) [wrow 1, wrow 0]) = Y.map wrow := by rw [hY, map_over, List.map_take]; rfl

      (refine awp_reg_seq [0, 3, 7, 9] fun K hK => ?_; (repeat' ((refine al_r rfl fun K' hK' => ?_); (repeat (simp only [go_sem, simprocAttr, List.length_map, hoa, hn0, hnl2, hov, Int.toNat_natCast])); (first | ((refine hK' _ _ ?_) <;> clear hK' K') | ((show AC _ _ (D.fn 17 _) _ _); refine acall_p (f := 17) (e := rfl) (hr := rfl) (k := hK' _ _ ?_) (hc := Try.call17) (h := putBig); clear hK' K')))); all_goals (refine al_nil ?_; (simp only [go_sem, simprocAttr, List.length_map, hoa, hn0, hnl2, hov, Int.toNat_natCast]); refine hK _ ?_; clear hK K))
      refine awp_draw (by kernel_rfl) [0, 3, 7] fun K hK => ?_
      ((refine ah_r 0 rfl (by kernel_rfl) rfl fun K' hK' => ?_); (simp only [go_sem, simprocAttr, List.length_map, hoa, hn0, hnl2, hov, Int.toNat_natCast]); ((refine hK' _ ?_); clear hK' K'))
      ((refine ah_r 4 rfl (by kernel_rfl) rfl fun K' hK' => ?_); (simp only [go_sem, simprocAttr, List.length_map, hoa, hn0, hnl2, hov, Int.toNat_natCast]); ((refine hK' _ ?_); clear hK' K'))
      ((refine ah_r 5 rfl (by kernel_rfl) rfl fun K' hK' => ?_); (simp only [go_sem, simprocAttr, List.length_map, hoa, hn0, hnl2, hov, Int.toNat_natCast]); ((refine hK' _ ?_); clear hK' K'))
      ((refine ah_r 7 rfl (by kernel_rfl) rfl fun K' hK' => ?_); (simp only [go_sem, simprocAttr, List.length_map, hoa, hn0, hnl2, hov, Int.toNat_natCast]); ((refine hK' _ ?_); clear hK' K'))
      (refine ah_one 1 rfl (by kernel_rfl) ?_; (repeat' ((refine al_r rfl fun K' hK' => ?_); (repeat (simp only [go_sem, simprocAttr, List.length_map, hoa, hn0, hnl2, hov, Int.toNat_natCast])); ((refine hK' _ _ ?_) <;> clear hK' K'))); all_goals refine al_nil ?_)
      ((refine ah_r 2 rfl (by kernel_rfl) rfl fun K' hK' => ?_); (simp only [go_sem, simprocAttr, List.length_map, hoa, hn0, hnl2, hov, Int.toNat_natCast]); ((refine hK' _ ?_); clear hK' K'))
      (refine ah_one 3 rfl (by kernel_rfl) ?_; (repeat' ((refine al_r rfl fun K' hK' => ?_); (repeat (simp only [go_sem, simprocAttr, List.length_map, hoa, hn0, hnl2, hov, Int.toNat_natCast])); ((refine hK' _ _ ?_) <;> clear hK' K'))); all_goals refine al_nil ?_)
      (refine ah_one 6 rfl (by kernel_rfl) ?_; (repeat' ((refine al_r rfl fun K' hK' => ?_); (repeat (simp only [go_sem, simprocAttr, List.length_map, hoa, hn0, hnl2, hov, Int.toNat_natCast])); ((refine ⟨?_, ?_, hK' _ _ ?_⟩) <;> clear hK' K' <;> (first | (show alist _ _ _ _ _ _; skip) | (simp; done))))); all_goals refine al_nil ?_)
      (refine ah_one 8 rfl (by kernel_rfl) ?_; (repeat' ((refine al_r rfl fun K' hK' => ?_); (repeat (simp only [go_sem, simprocAttr, List.length_map, hoa, hn0, hnl2, hov, Int.toNat_natCast])); ((refine ⟨?_, ?_, ?_, hK' _ _ ?_⟩) <;> clear hK' K' <;> (first | (show alist _ _ _ _ _ _; skip) | assumption | (simp; done) | (simp; omega))))); all_goals refine al_nil ?_)
      (refine ah_done (by kernel_rfl) ?_; (simp only [go_sem, simprocAttr, List.length_map, hoa, hn0, hnl2, hov, Int.toNat_natCast]); refine hK _ ?_; clear hK K)
      (refine hcut _ [0, 3, 7] [0, 1, 2, 3, 5] (by decide) kept0123 ?_; simp only [go_sem, simprocAttr, List.length_map, hoa, hn0, hnl2, hov, Int.toNat_natCast]; (rw [hoa] at key; exact key))
    · rw [if_neg (by rw [hc]; exact Bool.false_ne_true)] at hY

      refine awp_skip ?_
      (refine hcut _ [0, 3, 7] [0, 1, 2, 3, 5] (by decide) kept0123 ?_; simp only [go_sem, simprocAttr, List.length_map]; (rw [hY] at key; exact key))
end Go.Proofs.Ytagphggcdmjlpaa.P

/- Carry's word: told by recursion on how deep it may go. -/
namespace Go.Proofs.Ytagphggcdmjlpaa.P
open Go.Ab Go.Proofs.Ytagphggcdmjlpaa.T

/-- What put answers. -/
def putK (S : CT) (o : Obj) : (Int × Int) × CT :=
  if (putS S.2.1 o).2.2 != 0 then ((0, (putS S.2.1 o).2.2), S) else (wordS 4 S.2.1.length, leftK S.1 o, (putS S.2.1 o).1, ups S.2.2 o.at_ (wordS 4 S.2.1.length).1)

/-- Parts are carried over one behind the other. -/
def partsK (F : CT → Int → (Int × Int) × CT) : CT → List Int → List Int → (List Int × Int) × CT
  | S, [], acc => ((acc, 0), S)
  | S, p :: l, acc => if (F S p).1.2 != 0 then (([], (F S p).1.2), (F S p).2) else partsK F (F S p).2 l (acc ++ [(F S p).1.1])

/-- The answer where parts go over first. -/
def objK (R : (List Int × Int) × CT) (P : (Int × Int) × CT) : (Int × Int) × CT := if R.1.2 != 0 then ((0, R.1.2), R.2) else P

/-- What word answers, of what was read, and of what is known of the place. -/
def stepK (w : Int) (S : CT) (r : Int × Int × Int) (l : Option Int) (deep : (Int × Int) × CT) : (Int × Int) × CT :=
  if r.2.2 != 0 || r.1 != 4 then ((w, r.2.2), S) else match l with
  | some x => ((x, 0), S)
  | none => deep
theorem stepK_triv {w : Int} {S : CT} {r : Int × Int × Int} {l : Option Int} {d : (Int × Int) × CT} (h : (r.2.2 != 0 || r.1 != 4) = true) : stepK w S r l d = ((w, r.2.2), S) := by unfold stepK; rw [if_pos h]
theorem stepK_done {w x : Int} {S : CT} {r : Int × Int × Int} {l : Option Int} {d : (Int × Int) × CT} (h : ¬ (r.2.2 != 0 || r.1 != 4) = true) (hl : l = some x) : stepK w S r l d = ((x, 0), S) := by subst hl; unfold stepK; rw [if_neg h]
theorem stepK_none {w : Int} {S : CT} {r : Int × Int × Int} {l : Option Int} {d : (Int × Int) × CT} (h : ¬ (r.2.2 != 0 || r.1 != 4) = true) (hl : l = none) : stepK w S r l d = d := by subst hl; unfold stepK; rw [if_neg h]

/-- What word does with an object. -/
def goK (F : CT → Int → (Int × Int) × CT) (S : CT) (A : Obj × Int) : (Int × Int) × CT :=
  if A.2 != 0 then ((0, A.2), S) else objK (partsK F S A.1.parts []) (putK (partsK F S A.1.parts []).2 { A.1 with parts := (partsK F S A.1.parts []).1.1 })
theorem goK_none {F : CT → Int → (Int × Int) × CT} {S : CT} {A : Obj × Int} (h : (A.2 != 0) = true) : goK F S A = ((0, A.2), S) := by unfold goK; rw [if_pos h]
theorem goK_obj {F : CT → Int → (Int × Int) × CT} {S : CT} {o : Obj} : goK F S (o, 0) = objK (partsK F S o.parts []) (putK (partsK F S o.parts []).2 { o with parts := (partsK F S o.parts []).1.1 }) := by unfold goK; rw [if_neg (by simp)]

/-- What word answers. -/
def wordK (g : List Int) : Nat → CT → Int → (Int × Int) × CT
  | 0, S, w => stepK w S (readS w) (lk S.2.2 (readS w).2.1) ((0, 2), S)
  | n + 1, S, w => stepK w S (readS w) (lk S.2.2 (readS w).2.1) (goK (wordK g n) S (atS g (readS w).2.1))

theorem finK {f : FuncId} {args : List D} {obs : List Ob} {g : List Int} {x e : Int} {T : CT} (W : (Int × Int) × CT) (h0 : W = ((x, e), T)) (h : ACalls Try.prog f args obs (fun r obs' => r = .tup [wD x, iD e] ∧ obs' = cpB g T)) :
    ACalls Try.prog f args obs (fun r obs' => r = .tup [wD W.1.1, iD W.1.2] ∧ obs' = cpB g W.2) := by
  subst h0; exact h

theorem putC (g : List Int) (S : CT) (o : Obj) (n : Nat) (hoa : o.at_ = n) (hnl : n ≤ S.1.length) (hS : S.1.length ≤ 4000) (hlen : S.2.1.length ≤ maxLen) :
    ACalls Try.prog 83 [.ptr 0 0 0, objD o] (cpA g S) (fun r obs' => r = .tup [wD (putK S o).1.1, iD (putK S o).1.2] ∧ obs' = cpB g (putK S o).2) := by
  by_cases hg : (putS S.2.1 o).2.2 = 0
  · have hw := word 4 S.2.1.length
    have e : putK S o = (wordS 4 S.2.1.length, leftK S.1 o, (putS S.2.1 o).1, ups S.2.2 o.at_ (wordS 4 S.2.1.length).1) := by
      unfold putK; rw [if_neg (by simp [hg])]
    generalize wordS 4 (S.2.1.length : Int) = W at hw e
    obtain ⟨x, e2⟩ := W
    exact finK _ e (putOk g S o n x e2 hoa hnl hS hlen hg hw)
  · have hp := put S.2.1 o hlen
    have hnil : (putS S.2.1 o).1 = [] ∧ (putS S.2.1 o).2.1 = 0 := by
      unfold putS at hg ⊢
      split
      · exact ⟨rfl, rfl⟩
      · split
        · exact ⟨rfl, rfl⟩
        · rename_i h1 h2
          rw [if_neg h1, if_neg h2] at hg
          exact absurd rfl hg
    rw [hnil.1, hnil.2] at hp
    have e : putK S o = ((0, (putS S.2.1 o).2.2), S) := by unfold putK; rw [if_pos (by simpa using hg)]
    exact finK _ e (putBad g S o _ (by simpa using hg) hp)


theorem carryTriv (g : List Int) (S : CT) (w n t a e : Int) (hrd : ACallP Try.prog 62 [wD w] (.tup [iD t, iD a, iD e])) (hc0 : (e != 0 || t != 4) = true) :
    ACalls Try.prog 59 [.ptr 0 0 0, wD w, iD n] (cpA g S) (fun r obs' => r = .tup [wD w, iD e] ∧ obs' = cpB g S) := by
  obtain ⟨E, hE⟩ : ∃ E, (e != 0) = E := ⟨_, rfl⟩
  obtain ⟨G, hG⟩ : ∃ G, (t != 4) = G := ⟨_, rfl⟩
  rw [hE, hG] at hc0
  refine acallm_fn [6, 7] Try.func59 rfl rfl Try.ntmps59 (by simp) (by simp) fun R hR => ?_
  (refine awp_reg_seq [0, 1, 2] fun K hK => ?_; (repeat' ((refine al_r rfl fun K' hK' => ?_); (repeat (simp only [go_sem, simprocAttr])); ((refine hK' _ _ ?_) <;> clear hK' K'))); all_goals (refine al_nil ?_; (simp only [go_sem, simprocAttr]); refine hK _ ?_; clear hK K))
  (refine awp_mv [0, 1, 2] [0, 1, 9, 3, 2] (by decide) (kept4 rfl (by simp)) ?_; simp only [go_sem, simprocAttr])
  (refine awp_reg_seq [0, 1, 2, 8, 9, 10] fun K hK => ?_; (repeat' ((refine al_r rfl fun K' hK' => ?_); (repeat (simp only [go_sem, simprocAttr])); (first | ((refine hK' _ _ ?_) <;> clear hK' K') | ((show AC _ _ (D.fn 62 _) _ _); refine acall_p (f := 62) (e := rfl) (hr := rfl) (k := hK' _ _ ?_) (hc := Try.call62) (h := hrd); clear hK' K')))); all_goals (refine al_nil ?_; (simp only [go_sem, simprocAttr]); refine hK _ ?_; clear hK K))
  refine awp_seq_k fun K hK => ?_

  refine awp_reg_tov [0, 1, 2, 9, 10, 27] [(27, bD true)] (h := ?_) (k := ?_)
  · cases E <;> cases G <;> first | (cases hc0; done) | skip
    all_goals ((repeat' (first | ((first | refine al_r rfl fun K' hK' => ?_ | refine al_t rfl rfl fun K' hK' => ?_); (repeat (simp only [go_sem, simprocAttr, hE, hG])); ((refine hK' _ _ ?_) <;> clear hK' K')) | refine al_e rfl rfl ?_)); all_goals (refine al_nil ?_; (simp only [go_sem, simprocAttr, hE, hG, *, Bool.and_true, Bool.and_false, Bool.true_and, Bool.false_and, Bool.or_true, Bool.true_or, Bool.or_false, Bool.false_or, Bool.not_true, Bool.not_false, Bool.false_eq_true]; done)))
  (intro K hK; (simp only [go_sem, simprocAttr, hE, hG]); refine hK _ ?_; clear hK K)
  refine awp_if (_) rfl (fun hc => ?_) (fun hc => ?_)
  · (refine awp_reg_seq [6, 7] fun K hK => ?_; (repeat' ((refine al_r rfl fun K' hK' => ?_); (repeat (simp only [go_sem, simprocAttr, hE, hG])); ((refine hK' _ _ ?_) <;> clear hK' K'))); all_goals (refine al_nil ?_; (simp only [go_sem, simprocAttr, hE, hG]); refine hK _ ?_; clear hK K))
    refine awp_ret (hR _ _ [0, 1, 2, 3, 4] (.inl rfl) rfl (by decide) (by simp only [List.length_cons, List.length_nil]; decide) ?_)
    refine ⟨?_, ?_⟩ <;> simp only [go_sem, simprocAttr, hE, hG, cpB, cpD]
  · cases hc


theorem carryDone (g : List Int) (S : CT) (w n a x : Int) (hrd : ACallP Try.prog 62 [wD w] (.tup [iD 4, iD a, iD 0])) (hlk : lk S.2.2 a = some x) :
    ACalls Try.prog 59 [.ptr 0 0 0, wD w, iD n] (cpA g S) (fun r obs' => r = .tup [wD x, iD 0] ∧ obs' = cpB g S) := by
  have hmg := mget_embW S.2.2 a
  rw [hlk] at hmg
  have hkeys := embW_keys S.2.2
  refine acallm_fn [6, 7] Try.func59 rfl rfl Try.ntmps59 (by simp) (by simp) fun R hR => ?_
  (refine awp_reg_seq [0, 1, 2] fun K hK => ?_; (repeat' ((refine al_r rfl fun K' hK' => ?_); (repeat (simp only [go_sem, simprocAttr, bne_self_eq_false])); ((refine hK' _ _ ?_) <;> clear hK' K'))); all_goals (refine al_nil ?_; (simp only [go_sem, simprocAttr, bne_self_eq_false]); refine hK _ ?_; clear hK K))
  (refine awp_mv [0, 1, 2] [0, 1, 9, 3, 2] (by decide) (kept4 rfl (by simp)) ?_; simp only [go_sem, simprocAttr, bne_self_eq_false])
  (refine awp_reg_seq [0, 1, 2, 8, 9, 10] fun K hK => ?_; (repeat' ((refine al_r rfl fun K' hK' => ?_); (repeat (simp only [go_sem, simprocAttr, bne_self_eq_false])); (first | ((refine hK' _ _ ?_) <;> clear hK' K') | ((show AC _ _ (D.fn 62 _) _ _); refine acall_p (f := 62) (e := rfl) (hr := rfl) (k := hK' _ _ ?_) (hc := Try.call62) (h := hrd); clear hK' K')))); all_goals (refine al_nil ?_; (simp only [go_sem, simprocAttr, bne_self_eq_false]); refine hK _ ?_; clear hK K))
  refine awp_seq_k fun K hK => ?_
  (refine awp_reg_seq [0, 1, 2, 9, 10, 27] fun K hK => ?_; (repeat' ((first | refine al_r rfl fun K' hK' => ?_ | refine al_t rfl rfl fun K' hK' => ?_); (repeat (simp only [go_sem, simprocAttr, bne_self_eq_false])); ((refine hK' _ _ ?_) <;> clear hK' K'))); all_goals (refine al_nil ?_; (simp only [go_sem, simprocAttr, bne_self_eq_false]); refine hK _ ?_; clear hK K))
  refine awp_if (_) rfl (fun hc => ?_) (fun hc => ?_)
  · cases hc
  · refine awp_skip ?_
    refine hK _ ?_; clear hK K
    refine awp_seq_k fun K hK => ?_

    (refine awp_reg_seq [0, 2, 9, 11, 12] fun K hK => ?_; (repeat' ((refine al_r rfl fun K' hK' => ?_); (repeat (simp only [go_sem, simprocAttr, hkeys, hmg, Option.map_some])); ((refine hK' _ _ ?_) <;> clear hK' K'))); all_goals (refine al_nil ?_; (simp only [go_sem, simprocAttr, hkeys, hmg, Option.map_some]); refine hK _ ?_; clear hK K))
    (refine awp_reg_seq [0, 2, 9, 11, 39] fun K hK => ?_; (repeat' ((refine al_r rfl fun K' hK' => ?_); (repeat (simp only [go_sem, simprocAttr, hkeys, hmg, Option.map_some])); ((refine hK' _ _ ?_) <;> clear hK' K'))); all_goals (refine al_nil ?_; (simp only [go_sem, simprocAttr, hkeys, hmg, Option.map_some]); refine hK _ ?_; clear hK K))
    refine awp_if (_) rfl (fun hc => ?_) (fun hc => ?_)
    · (refine awp_reg_seq [6, 7] fun K hK => ?_; (repeat' ((refine al_r rfl fun K' hK' => ?_); (repeat (simp only [go_sem, simprocAttr, hkeys, hmg, Option.map_some])); ((refine hK' _ _ ?_) <;> clear hK' K'))); all_goals (refine al_nil ?_; (simp only [go_sem, simprocAttr, hkeys, hmg, Option.map_some]); refine hK _ ?_; clear hK K))
      refine awp_ret (hR _ _ [0, 1, 2, 3, 4] (.inl rfl) rfl (by decide) (by simp only [List.length_cons, List.length_nil]; decide) ?_)
      refine ⟨?_, ?_⟩ <;> simp only [go_sem, simprocAttr, hkeys, hmg, Option.map_some, cpB, cpD]
    · cases hc


theorem carryDeep (g : List Int) (S : CT) (w a : Int) (hrd : ACallP Try.prog 62 [wD w] (.tup [iD 4, iD a, iD 0])) (hlk : lk S.2.2 a = none) :
    ACalls Try.prog 59 [.ptr 0 0 0, wD w, iD 0] (cpA g S) (fun r obs' => r = .tup [wD 0, iD 2] ∧ obs' = cpB g S) := by
  have hmg := mget_embW S.2.2 a
  rw [hlk] at hmg
  have hkeys := embW_keys S.2.2
  refine acallm_fn [6, 7] Try.func59 rfl rfl Try.ntmps59 (by simp) (by simp) fun R hR => ?_
  (refine awp_reg_seq [0, 1, 2] fun K hK => ?_; (repeat' ((refine al_r rfl fun K' hK' => ?_); (repeat (simp only [go_sem, simprocAttr, bne_self_eq_false])); ((refine hK' _ _ ?_) <;> clear hK' K'))); all_goals (refine al_nil ?_; (simp only [go_sem, simprocAttr, bne_self_eq_false]); refine hK _ ?_; clear hK K))
  (refine awp_mv [0, 1, 2] [0, 1, 9, 3, 2] (by decide) (kept4 rfl (by simp)) ?_; simp only [go_sem, simprocAttr, bne_self_eq_false])
  (refine awp_reg_seq [0, 1, 2, 8, 9, 10] fun K hK => ?_; (repeat' ((refine al_r rfl fun K' hK' => ?_); (repeat (simp only [go_sem, simprocAttr, bne_self_eq_false])); (first | ((refine hK' _ _ ?_) <;> clear hK' K') | ((show AC _ _ (D.fn 62 _) _ _); refine acall_p (f := 62) (e := rfl) (hr := rfl) (k := hK' _ _ ?_) (hc := Try.call62) (h := hrd); clear hK' K')))); all_goals (refine al_nil ?_; (simp only [go_sem, simprocAttr, bne_self_eq_false]); refine hK _ ?_; clear hK K))
  refine awp_seq_k fun K hK => ?_
  (refine awp_reg_seq [0, 1, 2, 9, 10, 27] fun K hK => ?_; (repeat' ((first | refine al_r rfl fun K' hK' => ?_ | refine al_t rfl rfl fun K' hK' => ?_); (repeat (simp only [go_sem, simprocAttr, bne_self_eq_false])); ((refine hK' _ _ ?_) <;> clear hK' K'))); all_goals (refine al_nil ?_; (simp only [go_sem, simprocAttr, bne_self_eq_false]); refine hK _ ?_; clear hK K))
  refine awp_if (_) rfl (fun hc => ?_) (fun hc => ?_)
  · cases hc
  · refine awp_skip ?_
    refine hK _ ?_; clear hK K
    refine awp_seq_k fun K hK => ?_

    (refine awp_reg_seq [0, 2, 9, 11, 12] fun K hK => ?_; (repeat' ((refine al_r rfl fun K' hK' => ?_); (repeat (simp only [go_sem, simprocAttr, hkeys, hmg, Option.map_none])); ((refine hK' _ _ ?_) <;> clear hK' K'))); all_goals (refine al_nil ?_; (simp only [go_sem, simprocAttr, hkeys, hmg, Option.map_none]); refine hK _ ?_; clear hK K))
    (refine awp_reg_seq [0, 2, 9, 11, 39] fun K hK => ?_; (repeat' ((refine al_r rfl fun K' hK' => ?_); (repeat (simp only [go_sem, simprocAttr, hkeys, hmg, Option.map_none])); ((refine hK' _ _ ?_) <;> clear hK' K'))); all_goals (refine al_nil ?_; (simp only [go_sem, simprocAttr, hkeys, hmg, Option.map_none]); refine hK _ ?_; clear hK K))
    refine awp_if (_) rfl (fun hc => ?_) (fun hc => ?_)
    · cases hc
    · refine awp_skip ?_
      refine hK _ ?_; clear hK K
      refine awp_seq_k fun K hK => ?_
      (refine awp_reg_seq [0, 2, 9, 42] fun K hK => ?_; (repeat' ((refine al_r rfl fun K' hK' => ?_); (repeat (simp only [go_sem, simprocAttr, hkeys, hmg, Option.map_none])); ((refine hK' _ _ ?_) <;> clear hK' K'))); all_goals (refine al_nil ?_; (simp only [go_sem, simprocAttr, hkeys, hmg, Option.map_none]); refine hK _ ?_; clear hK K))
      refine awp_if (_) rfl (fun hc => ?_) (fun hc => ?_)
      · (refine awp_reg_seq [6, 7] fun K hK => ?_; (repeat' ((refine al_r rfl fun K' hK' => ?_); (repeat (simp only [go_sem, simprocAttr, hkeys, hmg, Option.map_none])); ((refine hK' _ _ ?_) <;> clear hK' K'))); all_goals (refine al_nil ?_; (simp only [go_sem, simprocAttr, hkeys, hmg, Option.map_none]); refine hK _ ?_; clear hK K))
        refine awp_ret (hR _ _ [0, 1, 2, 3, 4] (.inl rfl) rfl (by decide) (by simp only [List.length_cons, List.length_nil]; decide) ?_)
        refine ⟨?_, ?_⟩ <;> simp only [go_sem, simprocAttr, hkeys, hmg, Option.map_none, cpB, cpD]
      · cases hc


theorem carryNone (g : List Int) (S : CT) (w a e n : Int) (o : Obj) (hn : 1 ≤ n) (he : (e != 0) = true) (hrd : ACallP Try.prog 62 [wD w] (.tup [iD 4, iD a, iD 0])) (hlk : lk S.2.2 a = none) (hat : ACallP Try.prog 19 [words g, iD a] (.tup [objD o, iD e])) :
    ACalls Try.prog 59 [.ptr 0 0 0, wD w, iD n] (cpA g S) (fun r obs' => r = .tup [wD 0, iD e] ∧ obs' = cpB g S) := by
  have hmg := mget_embW S.2.2 a
  rw [hlk] at hmg
  have hkeys := embW_keys S.2.2
  have c2 : decide (n < 1) = false := by simp; omega
  refine acallm_fn [6, 7] Try.func59 rfl rfl Try.ntmps59 (by simp) (by simp) fun R hR => ?_
  (refine awp_reg_seq [0, 1, 2] fun K hK => ?_; (repeat' ((refine al_r rfl fun K' hK' => ?_); (repeat (simp only [go_sem, simprocAttr, bne_self_eq_false, he])); ((refine hK' _ _ ?_) <;> clear hK' K'))); all_goals (refine al_nil ?_; (simp only [go_sem, simprocAttr, bne_self_eq_false, he]); refine hK _ ?_; clear hK K))
  (refine awp_mv [0, 1, 2] [0, 1, 9, 3, 2] (by decide) (kept4 rfl (by simp)) ?_; simp only [go_sem, simprocAttr, bne_self_eq_false, he])
  (refine awp_reg_seq [0, 1, 2, 8, 9, 10] fun K hK => ?_; (repeat' ((refine al_r rfl fun K' hK' => ?_); (repeat (simp only [go_sem, simprocAttr, bne_self_eq_false, he])); (first | ((refine hK' _ _ ?_) <;> clear hK' K') | ((show AC _ _ (D.fn 62 _) _ _); refine acall_p (f := 62) (e := rfl) (hr := rfl) (k := hK' _ _ ?_) (hc := Try.call62) (h := hrd); clear hK' K')))); all_goals (refine al_nil ?_; (simp only [go_sem, simprocAttr, bne_self_eq_false, he]); refine hK _ ?_; clear hK K))
  refine awp_seq_k fun K hK => ?_
  (refine awp_reg_seq [0, 1, 2, 9, 10, 27] fun K hK => ?_; (repeat' ((first | refine al_r rfl fun K' hK' => ?_ | refine al_t rfl rfl fun K' hK' => ?_); (repeat (simp only [go_sem, simprocAttr, bne_self_eq_false, he])); ((refine hK' _ _ ?_) <;> clear hK' K'))); all_goals (refine al_nil ?_; (simp only [go_sem, simprocAttr, bne_self_eq_false, he]); refine hK _ ?_; clear hK K))
  refine awp_if (_) rfl (fun hc => ?_) (fun hc => ?_)
  · cases hc
  · refine awp_skip ?_
    refine hK _ ?_; clear hK K
    refine awp_seq_k fun K hK => ?_

    (refine awp_reg_seq [0, 2, 9, 11, 12] fun K hK => ?_; (repeat' ((refine al_r rfl fun K' hK' => ?_); (repeat (simp only [go_sem, simprocAttr, hkeys, hmg, Option.map_none, bne_self_eq_false, he, c2])); ((refine hK' _ _ ?_) <;> clear hK' K'))); all_goals (refine al_nil ?_; (simp only [go_sem, simprocAttr, hkeys, hmg, Option.map_none, bne_self_eq_false, he, c2]); refine hK _ ?_; clear hK K))
    (refine awp_reg_seq [0, 2, 9, 11, 39] fun K hK => ?_; (repeat' ((refine al_r rfl fun K' hK' => ?_); (repeat (simp only [go_sem, simprocAttr, hkeys, hmg, Option.map_none, bne_self_eq_false, he, c2])); ((refine hK' _ _ ?_) <;> clear hK' K'))); all_goals (refine al_nil ?_; (simp only [go_sem, simprocAttr, hkeys, hmg, Option.map_none, bne_self_eq_false, he, c2]); refine hK _ ?_; clear hK K))
    refine awp_if (_) rfl (fun hc => ?_) (fun hc => ?_)
    · cases hc
    · refine awp_skip ?_
      refine hK _ ?_; clear hK K
      refine awp_seq_k fun K hK => ?_
      (refine awp_reg_seq [0, 2, 9, 42] fun K hK => ?_; (repeat' ((refine al_r rfl fun K' hK' => ?_); (repeat (simp only [go_sem, simprocAttr, hkeys, hmg, Option.map_none, bne_self_eq_false, he, c2])); ((refine hK' _ _ ?_) <;> clear hK' K'))); all_goals (refine al_nil ?_; (simp only [go_sem, simprocAttr, hkeys, hmg, Option.map_none, bne_self_eq_false, he, c2]); refine hK _ ?_; clear hK K))
      refine awp_if (_) rfl (fun hc => ?_) (fun hc => ?_)
      · cases hc
      · refine awp_skip ?_
        refine hK _ ?_; clear hK K
        (refine awp_reg_seq [0, 2, 10, 13] fun K hK => ?_; (repeat' ((first | refine al_r rfl fun K' hK' => ?_ | refine al_d rfl fun K' hK' => ?_); (repeat (first | (simp only [go_sem, simprocAttr, hkeys, hmg, Option.map_none, bne_self_eq_false, he, c2]) | refine AS.mk ?_)); (first | ((first | refine hK' _ _ ?_ | refine ⟨?_, hK' _ _ ?_⟩) <;> clear hK' K' <;> (first | (show alist _ _ _ _ _ _; skip) | (simp; done))) | ((show AC _ _ (D.fn 19 _) _ _); refine acall_p (f := 19) (e := rfl) (hr := rfl) (k := hK' _ _ ?_) (hc := Try.call19) (h := hat); clear hK' K')))); all_goals (refine al_nil ?_; (simp only [go_sem, simprocAttr, hkeys, hmg, Option.map_none, bne_self_eq_false, he, c2]); refine hK _ ?_; clear hK K))
        refine awp_seq_k fun K hK => ?_
        (refine awp_reg_seq [0, 2, 10, 13, 53] fun K hK => ?_; (repeat' ((refine al_r rfl fun K' hK' => ?_); (repeat (simp only [go_sem, simprocAttr, hkeys, hmg, Option.map_none, bne_self_eq_false, he, c2])); ((refine hK' _ _ ?_) <;> clear hK' K'))); all_goals (refine al_nil ?_; (simp only [go_sem, simprocAttr, hkeys, hmg, Option.map_none, bne_self_eq_false, he, c2]); refine hK _ ?_; clear hK K))
        refine awp_if (_) rfl (fun hc => ?_) (fun hc => ?_)
        · (refine awp_reg_seq [6, 7] fun K hK => ?_; (repeat' ((refine al_r rfl fun K' hK' => ?_); (repeat (simp only [go_sem, simprocAttr, hkeys, hmg, Option.map_none, bne_self_eq_false, he, c2])); ((refine hK' _ _ ?_) <;> clear hK' K'))); all_goals (refine al_nil ?_; (simp only [go_sem, simprocAttr, hkeys, hmg, Option.map_none, bne_self_eq_false, he, c2]); refine hK _ ?_; clear hK K))
          refine awp_ret (hR _ _ [0, 1, 2, 3, 4] (.inl rfl) rfl (by decide) (by simp only [List.length_cons, List.length_nil]; decide) ?_)
          refine ⟨?_, ?_⟩ <;> simp only [go_sem, simprocAttr, hkeys, hmg, Option.map_none, bne_self_eq_false, he, c2, cpB, cpD]
        · cases hc
end Go.Proofs.Ytagphggcdmjlpaa.P

/- Carry's word, where an object goes over: a contract; and word as a whole. -/
namespace Go.Proofs.Ytagphggcdmjlpaa.P
open Go.Ab Go.Proofs.Ytagphggcdmjlpaa.T

theorem parts_nilK {F : CT → Int → (Int × Int) × CT} {S : CT} {acc : List Int} : partsK F S [] acc = ((acc, 0), S) := rfl
theorem parts_consK {F : CT → Int → (Int × Int) × CT} {S : CT} {p : Int} {l acc : List Int} : partsK F S (p :: l) acc = if (F S p).1.2 != 0 then (([], (F S p).1.2), (F S p).2) else partsK F (F S p).2 l (acc ++ [(F S p).1.1]) := rfl

theorem objK_ok {acc : List Int} {S : CT} {P : (Int × Int) × CT} : objK ((acc, 0), S) P = P := by unfold objK; rw [if_neg (by simp)]
theorem objK_err {acc : List Int} {e : Int} {S : CT} {P : (Int × Int) × CT} (h : (e != 0) = true) : objK ((acc, e), S) P = ((0, e), S) := by unfold objK; rw [if_pos h]

/-- All heaps of the copier are of a size. -/
def CtOk (g : List Int) (S : CT) : Prop := S.1.length = g.length ∧ S.2.1.length ≤ 4000


set_option maxRecDepth 100000 in
theorem carryParts (g : List Int) (F : CT → Int → (Int × Int) × CT) (S : CT) (w n : Int) (a : Nat) (o : Obj) (hn : 1 ≤ n) (hn2 : n ≤ 1000) (hrd : ACallP Try.prog 62 [wD w] (.tup [iD 4, iD a, iD 0])) (hlk : lk S.2.2 a = none)
    (hat : ACalls Try.prog 19 [words g, iD a] [] (fun r obs' => r = .tup [.agg [iD o.at_, iD o.kind, iD o.num, .p (.lit (.string o.text)), .ref 0 0 o.parts.length], iD 0] ∧ obs' = [.row 1 (o.parts.map wrow)]))
    (hoa : o.at_ = a) (hag : a ≤ g.length) (hg4 : g.length ≤ 4000) (hpl : o.parts.length ≤ 400) (hS : CtOk g S)
    (hF : ∀ S p, p ∈ o.parts → CtOk g S → ACalls Try.prog 59 [.ptr 0 0 0, wD p, iD (n - 1)] (cpA g S) (fun r obs' => r = .tup [wD (F S p).1.1, iD (F S p).1.2] ∧ obs' = cpB g (F S p).2) ∧ CtOk g (F S p).2) :
    ACalls Try.prog 59 [.ptr 0 0 0, wD w, iD n] (cpA g S) (fun r obs' => r = .tup [wD (objK (partsK F S o.parts []) (putK (partsK F S o.parts []).2 { o with parts := (partsK F S o.parts []).1.1 })).1.1, iD (objK (partsK F S o.parts []) (putK (partsK F S o.parts []).2 { o with parts := (partsK F S o.parts []).1.1 })).1.2] ∧
      obs' = cpB g (objK (partsK F S o.parts []) (putK (partsK F S o.parts []).2 { o with parts := (partsK F S o.parts []).1.1 })).2) := by
  have hmg := mget_embW S.2.2 a
  rw [hlk] at hmg
  have hkeys := embW_keys S.2.2
  have c2 : decide (n < 1) = false := by simp; omega
  have hwn : IntKind.i64.wrap (n - 1) = n - 1 := Go.Ab.wrap_small (by omega) (by omega)
  obtain ⟨RC, hRC⟩ : ∃ RC, RC = partsK F S o.parts [] := ⟨_, rfl⟩
  rw [← hRC]
  obtain ⟨V, hV⟩ : ∃ V, V = objK RC (putK RC.2 { o with parts := RC.1.1 }) := ⟨_, rfl⟩
  rw [← hV]
  refine acallm_fn [6, 7] Try.func59 rfl rfl Try.ntmps59 (by simp) (by simp) fun R hR => ?_
  (refine awp_reg_seq [0, 1, 2] fun K hK => ?_; (repeat' ((refine al_r rfl fun K' hK' => ?_); (repeat (simp only [go_sem, simprocAttr, bne_self_eq_false])); ((refine hK' _ _ ?_) <;> clear hK' K'))); all_goals (refine al_nil ?_; (simp only [go_sem, simprocAttr, bne_self_eq_false]); refine hK _ ?_; clear hK K))
  (refine awp_mv [0, 1, 2] [0, 1, 9, 3, 2] (by decide) (kept4 rfl (by simp)) ?_; simp only [go_sem, simprocAttr, bne_self_eq_false])
  (refine awp_reg_seq [0, 1, 2, 8, 9, 10] fun K hK => ?_; (repeat' ((refine al_r rfl fun K' hK' => ?_); (repeat (simp only [go_sem, simprocAttr, bne_self_eq_false])); (first | ((refine hK' _ _ ?_) <;> clear hK' K') | ((show AC _ _ (D.fn 62 _) _ _); refine acall_p (f := 62) (e := rfl) (hr := rfl) (k := hK' _ _ ?_) (hc := Try.call62) (h := hrd); clear hK' K')))); all_goals (refine al_nil ?_; (simp only [go_sem, simprocAttr, bne_self_eq_false]); refine hK _ ?_; clear hK K))
  refine awp_seq_k fun K hK => ?_
  (refine awp_reg_seq [0, 1, 2, 9, 10, 27] fun K hK => ?_; (repeat' ((first | refine al_r rfl fun K' hK' => ?_ | refine al_t rfl rfl fun K' hK' => ?_); (repeat (simp only [go_sem, simprocAttr, bne_self_eq_false])); ((refine hK' _ _ ?_) <;> clear hK' K'))); all_goals (refine al_nil ?_; (simp only [go_sem, simprocAttr, bne_self_eq_false]); refine hK _ ?_; clear hK K))
  refine awp_if (_) rfl (fun hc => ?_) (fun hc => ?_)
  · cases hc
  · refine awp_skip ?_
    refine hK _ ?_; clear hK K
    refine awp_seq_k fun K hK => ?_

    (refine awp_reg_seq [0, 2, 9, 11, 12] fun K hK => ?_; (repeat' ((refine al_r rfl fun K' hK' => ?_); (repeat (simp only [go_sem, simprocAttr, hkeys, hmg, Option.map_none, bne_self_eq_false, c2])); ((refine hK' _ _ ?_) <;> clear hK' K'))); all_goals (refine al_nil ?_; (simp only [go_sem, simprocAttr, hkeys, hmg, Option.map_none, bne_self_eq_false, c2]); refine hK _ ?_; clear hK K))
    (refine awp_reg_seq [0, 2, 9, 11, 39] fun K hK => ?_; (repeat' ((refine al_r rfl fun K' hK' => ?_); (repeat (simp only [go_sem, simprocAttr, hkeys, hmg, Option.map_none, bne_self_eq_false, c2])); ((refine hK' _ _ ?_) <;> clear hK' K'))); all_goals (refine al_nil ?_; (simp only [go_sem, simprocAttr, hkeys, hmg, Option.map_none, bne_self_eq_false, c2]); refine hK _ ?_; clear hK K))
    refine awp_if (_) rfl (fun hc => ?_) (fun hc => ?_)
    · cases hc
    · refine awp_skip ?_
      refine hK _ ?_; clear hK K
      refine awp_seq_k fun K hK => ?_
      (refine awp_reg_seq [0, 2, 9, 42] fun K hK => ?_; (repeat' ((refine al_r rfl fun K' hK' => ?_); (repeat (simp only [go_sem, simprocAttr, hkeys, hmg, Option.map_none, bne_self_eq_false, c2])); ((refine hK' _ _ ?_) <;> clear hK' K'))); all_goals (refine al_nil ?_; (simp only [go_sem, simprocAttr, hkeys, hmg, Option.map_none, bne_self_eq_false, c2]); refine hK _ ?_; clear hK K))
      refine awp_if (_) rfl (fun hc => ?_) (fun hc => ?_)
      · cases hc
      · refine awp_skip ?_
        refine hK _ ?_; clear hK K

        (refine awp_reg_seq [0, 2, 10, 13] fun K hK => ?_; (repeat' ((first | refine al_r rfl fun K' hK' => ?_ | refine al_d rfl fun K' hK' => ?_); (repeat (first | (simp only [go_sem, simprocAttr, bne_self_eq_false]) | refine AS.mk ?_)); (first | ((first | refine hK' _ _ ?_ | refine ⟨?_, hK' _ _ ?_⟩) <;> clear hK' K' <;> (first | (show alist _ _ _ _ _ _; skip) | (simp; done))) | ((show AC _ _ (D.fn 19 _) _ _); refine acall_new (f := 19) Try.call19 hat rfl ?_; rintro r obs' ⟨rfl, rfl⟩; (simp only [go_sem, simprocAttr, bne_self_eq_false]); refine hK' _ _ ?_; clear hK' K')))); all_goals (refine al_nil ?_; (simp only [go_sem, simprocAttr, bne_self_eq_false]); refine hK _ ?_; clear hK K))
        refine awp_seq_k fun K hK => ?_
        (refine awp_reg_seq [0, 2, 10, 13, 53] fun K hK => ?_; (repeat' ((refine al_r rfl fun K' hK' => ?_); (repeat (simp only [go_sem, simprocAttr, bne_self_eq_false])); ((refine hK' _ _ ?_) <;> clear hK' K'))); all_goals (refine al_nil ?_; (simp only [go_sem, simprocAttr, bne_self_eq_false]); refine hK _ ?_; clear hK K))
        refine awp_if (_) rfl (fun hc => ?_) (fun hc => ?_)
        · cases hc
        · refine awp_skip ?_
          refine hK _ ?_; clear hK K
          refine awp_seq_k fun K hK => ?_

          (refine awp_reg_seq [0, 2, 13, 56, 57, 58] fun K hK => ?_; (repeat' ((refine al_r rfl fun K' hK' => ?_); (repeat (simp only [go_sem, simprocAttr, List.length_map])); ((first | refine hK' _ _ ?_ | refine ⟨?_, hK' _ _ ?_⟩) <;> clear hK' K' <;> (first | (show alist _ _ _ _ _ _; skip) | (intro s hs; cases hs; done))))); all_goals (refine al_nil ?_; (simp only [go_sem, simprocAttr, List.length_map]); refine hK _ ?_; clear hK K))
          refine awp_block ?_
          -- loop 0 head [0, 2, 13, 56, 57, 58]
          refine awp_loop_cut (fun m s => ∃ (i : Nat) (acc : List Int) (S1 : CT) (Z : List Int), i ≤ o.parts.length ∧ m = o.parts.length - i ∧ acc.length = i ∧ CtOk g S1 ∧ RC = partsK F S1 (o.parts.drop i) acc ∧ Z = acc ++ o.parts.drop i ∧ s = ⟨ofL [(0, .ptr 0 0 0), (2, iD n), (13, .ptr 6 0 0), (56, .ref 5 0 o.parts.length), (57, iD o.parts.length), (58, iD i)], cpB g S1 ++ [.row 1 (Z.map wrow), .box [iD o.at_, iD o.kind, iD o.num, .p (.lit (.string o.text)), .ref 5 0 o.parts.length]], 4⟩) ⟨_, 0, [], S, o.parts, Nat.zero_le _, rfl, rfl, hS, hRC, rfl, rfl⟩ ?_
          clear hRC
          rintro m s ⟨i, acc, S1, Z, hi, hmi, hacc, hS1, hRC, hZ, rfl⟩
          (refine awp_reg_seq [0, 2, 13, 56, 57, 58, 59] fun K hK => ?_; (repeat' ((refine al_r rfl fun K' hK' => ?_); (repeat (simp only [go_sem, simprocAttr, List.length_map])); ((refine hK' _ _ ?_) <;> clear hK' K'))); all_goals (refine al_nil ?_; (simp only [go_sem, simprocAttr, List.length_map]); refine hK _ ?_; clear hK K))
          refine awp_seq_k fun K hK => ?_
          refine awp_if (decide ((i : Int) < (o.parts.length : Int))) rfl (fun hc => ?_) (fun hc => ?_)
          · refine awp_skip ?_
            refine hK _ ?_; clear hK K
            refine awp_seq_k fun K hK => ?_
            refine awp_block ?_
            have hi2 : i < o.parts.length := by simpa using hc
            obtain ⟨p, hgp⟩ := get_of_lt hi2
            have hnn : (0 : Int) ≤ (i : Int) := Int.natCast_nonneg i
            have hnx : IntKind.i64.wrap ((i : Int) + 1) = ((i + 1 : Nat) : Int) := by rw [Go.Ab.wrap_small (by omega) (by omega)]; rfl
            have hga : Z[i]? = some p := by rw [hZ, List.getElem?_append_right (by omega), hacc, Nat.sub_self, List.getElem?_drop, Nat.add_zero]; exact hgp
            obtain ⟨hw, hS2⟩ := hF S1 p (List.mem_of_getElem? hgp) hS1
            have hRC2 : RC = if (F S1 p).1.2 != 0 then (([], (F S1 p).1.2), (F S1 p).2) else partsK F (F S1 p).2 (o.parts.drop (i + 1)) (acc ++ [(F S1 p).1.1]) := by rw [hRC, drop_of hgp, parts_consK]
            clear hRC
            generalize F S1 p = W at hw hS2 hRC2
            obtain ⟨⟨x, e⟩, S2⟩ := W
            simp only at hw hS2 hRC2
            have hset : (Z.map wrow).set i (wrow x) = (Z.set i x).map wrow := by rw [List.map_set]
            have hZ2 : Z.set i x = (acc ++ [x]) ++ o.parts.drop (i + 1) := by
              rw [hZ, List.set_append_right _ _ (by omega), hacc, Nat.sub_self, drop_of hgp, List.set_cons_zero, List.append_assoc]; rfl
            have hdl : Z.length = o.parts.length := by rw [hZ]; simp; omega

            (refine awp_reg_seq [0, 2, 13, 14, 15, 56, 57, 58] fun K hK => ?_; (repeat' ((refine al_r rfl fun K' hK' => ?_); (repeat (simp only [go_sem, simprocAttr, hga, hnn, hi2, hnx, hwn, hset, hdl, Int.toNat_natCast, List.getElem?_map, Option.map_some, List.length_map])); ((first | refine hK' _ _ ?_ | refine ⟨?_, hK' _ _ ?_⟩) <;> clear hK' K' <;> (first | (show alist _ _ _ _ _ _; skip) | omega)))); all_goals (refine al_nil ?_; (simp only [go_sem, simprocAttr, hga, hnn, hi2, hnx, hwn, hset, hdl, Int.toNat_natCast, List.getElem?_map, Option.map_some, List.length_map]); refine hK _ ?_; clear hK K))
            refine awp_suff ⟨ofL [(0, .ptr 0 0 0), (2, iD n), (10, iD e), (13, .ptr 6 0 0), (56, .ref 5 0 o.parts.length), (57, iD o.parts.length), (58, iD i)], cpB g S2 ++ [.row 1 ((Z.set i x).map wrow), .box [iD o.at_, iD o.kind, iD o.num, .p (.lit (.string o.text)), .ref 5 0 o.parts.length]], 4⟩ ?_ (fun keyA => ?_)
            rotate_left
            · refine awp_draw_seq (by kernel_rfl) [0, 2, 10, 13, 56, 57, 58] fun K hK => ?_
              ((refine ah_r 0 rfl (by kernel_rfl) rfl fun K' hK' => ?_); (simp only [go_sem, simprocAttr, hga, hnn, hi2, hnx, hwn, hset, hdl, Int.toNat_natCast, List.getElem?_map, Option.map_some, List.length_map]); ((refine hK' _ ?_); clear hK' K'))
              ((refine ah_r 2 rfl (by kernel_rfl) rfl fun K' hK' => ?_); (simp only [go_sem, simprocAttr, hga, hnn, hi2, hnx, hwn, hset, hdl, Int.toNat_natCast, List.getElem?_map, Option.map_some, List.length_map]); ((refine hK' _ ?_); clear hK' K'))
              ((refine ah_r 3 rfl (by kernel_rfl) rfl fun K' hK' => ?_); (simp only [go_sem, simprocAttr, hga, hnn, hi2, hnx, hwn, hset, hdl, Int.toNat_natCast, List.getElem?_map, Option.map_some, List.length_map]); ((refine hK' _ ?_); clear hK' K'))
              ((refine ah_r 4 rfl (by kernel_rfl) rfl fun K' hK' => ?_); (simp only [go_sem, simprocAttr, hga, hnn, hi2, hnx, hwn, hset, hdl, Int.toNat_natCast, List.getElem?_map, Option.map_some, List.length_map]); ((refine hK' _ ?_); clear hK' K'))
              ((refine ah_r 5 rfl (by kernel_rfl) rfl fun K' hK' => ?_); (simp only [go_sem, simprocAttr, hga, hnn, hi2, hnx, hwn, hset, hdl, Int.toNat_natCast, List.getElem?_map, Option.map_some, List.length_map]); ((refine hK' _ ?_); clear hK' K'))
              ((refine ah_r 6 rfl (by kernel_rfl) rfl fun K' hK' => ?_); (simp only [go_sem, simprocAttr, hga, hnn, hi2, hnx, hwn, hset, hdl, Int.toNat_natCast, List.getElem?_map, Option.map_some, List.length_map]); ((refine hK' _ ?_); clear hK' K'))
              refine ah_two 1 7 rfl rfl (by kernel_rfl) ?_ ?_
              · ((repeat' ((refine al_r rfl fun K' hK' => ?_); (repeat (simp only [go_sem, simprocAttr, hga, hnn, hi2, hnx, hwn, hset, hdl, Int.toNat_natCast, List.getElem?_map, Option.map_some, List.length_map])); ((refine hK' _ _ ?_) <;> clear hK' K'))); all_goals refine al_nil ?_)
                (refine ah_one 7 rfl (by kernel_rfl) ?_; (repeat' ((refine al_r rfl fun K' hK' => ?_); (repeat (simp only [go_sem, simprocAttr, hga, hnn, hi2, hnx, hwn, hset, hdl, Int.toNat_natCast, List.getElem?_map, Option.map_some, List.length_map])); ((show AC _ _ (D.fn 59 _) _ _); refine acall_m (f := 59) [0, 1, 4, 3] Try.call59 hw rfl rfl (by decide) (by simp) ?_; rintro r obs' ⟨rfl, rfl⟩; refine ⟨by simp, ?_⟩; (simp only [go_sem, simprocAttr, hga, hnn, hi2, hnx, hwn, hset, hdl, Int.toNat_natCast, List.getElem?_map, Option.map_some, List.length_map]); refine hK' _ _ ?_; clear hK' K'))); all_goals refine al_nil ?_)
                ((refine ah_r 8 rfl (by kernel_rfl) rfl fun K' hK' => ?_); (simp only [go_sem, simprocAttr, hga, hnn, hi2, hnx, hwn, hset, hdl, Int.toNat_natCast, List.getElem?_map, Option.map_some, List.length_map]); ((refine hK' _ ?_); clear hK' K'))
                ((refine ah_r 9 rfl (by kernel_rfl) rfl fun K' hK' => ?_); (simp only [go_sem, simprocAttr, hga, hnn, hi2, hnx, hwn, hset, hdl, Int.toNat_natCast, List.getElem?_map, Option.map_some, List.length_map]); ((refine hK' _ ?_); clear hK' K'))
                ((refine ah_r 10 rfl (by kernel_rfl) rfl fun K' hK' => ?_); (simp only [go_sem, simprocAttr, hga, hnn, hi2, hnx, hwn, hset, hdl, Int.toNat_natCast, List.getElem?_map, Option.map_some, List.length_map]); ((refine hK' _ ?_); clear hK' K'))
                ((refine ah_r 11 rfl (by kernel_rfl) rfl fun K' hK' => ?_); (simp only [go_sem, simprocAttr, hga, hnn, hi2, hnx, hwn, hset, hdl, Int.toNat_natCast, List.getElem?_map, Option.map_some, List.length_map]); ((refine ⟨?_, hK' _ ?_⟩) <;> clear hK' K' <;> (first | omega | skip)))
                (refine ah_one 12 rfl (by kernel_rfl) ?_; (repeat' ((refine al_d rfl fun K' hK' => ?_); (repeat (first | (simp only [go_sem, simprocAttr, hga, hnn, hi2, hnx, hwn, hset, hdl, Int.toNat_natCast, List.getElem?_map, Option.map_some, List.length_map]) | refine AS.mk ?_)); ((refine ⟨?_, hK' _ _ ?_⟩) <;> clear hK' K' <;> (first | (show alist _ _ _ _ _ _; skip) | (simp; done))))); all_goals refine al_nil ?_)
                ((refine ah_r 13 rfl (by kernel_rfl) rfl fun K' hK' => ?_); (simp only [go_sem, simprocAttr, hga, hnn, hi2, hnx, hwn, hset, hdl, Int.toNat_natCast, List.getElem?_map, Option.map_some, List.length_map]); ((refine hK' _ ?_); clear hK' K'))
                (refine ah_done (by kernel_rfl) ?_; (simp only [go_sem, simprocAttr, hga, hnn, hi2, hnx, hwn, hset, hdl, Int.toNat_natCast, List.getElem?_map, Option.map_some, List.length_map]); refine hK _ ?_; clear hK K)
                (refine awp_frz [0, 2, 10, 13, 56, 57, 58] [0, 1, 2, 3, 7, 5, 6] (by decide) (by (exact kept0123)) ?_; simp only [go_sem, simprocAttr, hga, hnn, hi2, hnx, hwn, hset, hdl, Int.toNat_natCast, List.getElem?_map, Option.map_some, List.length_map])
                exact keyA
              · ((repeat' ((refine al_r rfl fun K' hK' => ?_); (repeat (simp only [go_sem, simprocAttr, hga, hnn, hi2, hnx, hwn, hset, hdl, Int.toNat_natCast, List.getElem?_map, Option.map_some, List.length_map])); ((show AC _ _ (D.fn 59 _) _ _); refine acall_m (f := 59) [0, 1, 4, 3] Try.call59 hw rfl rfl (by decide) (by simp) ?_; rintro r obs' ⟨rfl, rfl⟩; refine ⟨by simp, ?_⟩; (simp only [go_sem, simprocAttr, hga, hnn, hi2, hnx, hwn, hset, hdl, Int.toNat_natCast, List.getElem?_map, Option.map_some, List.length_map]); refine hK' _ _ ?_; clear hK' K'))); all_goals refine al_nil ?_)
                ((refine ah_r 8 rfl (by kernel_rfl) rfl fun K' hK' => ?_); (simp only [go_sem, simprocAttr, hga, hnn, hi2, hnx, hwn, hset, hdl, Int.toNat_natCast, List.getElem?_map, Option.map_some, List.length_map]); ((refine hK' _ ?_); clear hK' K'))
                ((refine ah_r 9 rfl (by kernel_rfl) rfl fun K' hK' => ?_); (simp only [go_sem, simprocAttr, hga, hnn, hi2, hnx, hwn, hset, hdl, Int.toNat_natCast, List.getElem?_map, Option.map_some, List.length_map]); ((refine hK' _ ?_); clear hK' K'))
                ((refine ah_r 10 rfl (by kernel_rfl) rfl fun K' hK' => ?_); (simp only [go_sem, simprocAttr, hga, hnn, hi2, hnx, hwn, hset, hdl, Int.toNat_natCast, List.getElem?_map, Option.map_some, List.length_map]); ((refine hK' _ ?_); clear hK' K'))
                (refine ah_one 1 rfl (by kernel_rfl) ?_; (repeat' ((refine al_r rfl fun K' hK' => ?_); (repeat (simp only [go_sem, simprocAttr, hga, hnn, hi2, hnx, hwn, hset, hdl, Int.toNat_natCast, List.getElem?_map, Option.map_some, List.length_map])); ((refine hK' _ _ ?_) <;> clear hK' K'))); all_goals refine al_nil ?_)
                ((refine ah_r 11 rfl (by kernel_rfl) rfl fun K' hK' => ?_); (simp only [go_sem, simprocAttr, hga, hnn, hi2, hnx, hwn, hset, hdl, Int.toNat_natCast, List.getElem?_map, Option.map_some, List.length_map]); ((refine ⟨?_, hK' _ ?_⟩) <;> clear hK' K' <;> (first | omega | skip)))
                (refine ah_one 12 rfl (by kernel_rfl) ?_; (repeat' ((refine al_d rfl fun K' hK' => ?_); (repeat (first | (simp only [go_sem, simprocAttr, hga, hnn, hi2, hnx, hwn, hset, hdl, Int.toNat_natCast, List.getElem?_map, Option.map_some, List.length_map]) | refine AS.mk ?_)); ((refine ⟨?_, hK' _ _ ?_⟩) <;> clear hK' K' <;> (first | (show alist _ _ _ _ _ _; skip) | (simp; done))))); all_goals refine al_nil ?_)
                ((refine ah_r 13 rfl (by kernel_rfl) rfl fun K' hK' => ?_); (simp only [go_sem, simprocAttr, hga, hnn, hi2, hnx, hwn, hset, hdl, Int.toNat_natCast, List.getElem?_map, Option.map_some, List.length_map]); ((refine hK' _ ?_); clear hK' K'))
                (refine ah_done (by kernel_rfl) ?_; (simp only [go_sem, simprocAttr, hga, hnn, hi2, hnx, hwn, hset, hdl, Int.toNat_natCast, List.getElem?_map, Option.map_some, List.length_map]); refine hK _ ?_; clear hK K)
                (refine awp_frz [0, 2, 10, 13, 56, 57, 58] [0, 1, 2, 3, 7, 5, 6] (by decide) (by (exact kept0123)) ?_; simp only [go_sem, simprocAttr, hga, hnn, hi2, hnx, hwn, hset, hdl, Int.toNat_natCast, List.getElem?_map, Option.map_some, List.length_map])
                exact keyA
            (refine awp_reg_seq [0, 2, 10, 13, 56, 57, 58, 76] fun K hK => ?_; (repeat' ((refine al_r rfl fun K' hK' => ?_); (repeat (simp only [go_sem, simprocAttr, hga, hnn, hi2, hnx, hwn, hset, hdl, Int.toNat_natCast, List.getElem?_map, Option.map_some, List.length_map])); ((refine hK' _ _ ?_) <;> clear hK' K'))); all_goals (refine al_nil ?_; (simp only [go_sem, simprocAttr, hga, hnn, hi2, hnx, hwn, hset, hdl, Int.toNat_natCast, List.getElem?_map, Option.map_some, List.length_map]); refine hK _ ?_; clear hK K))
            refine awp_if (e != 0) rfl (fun hc => ?_) (fun hc => ?_)
            · (refine awp_reg_seq [6, 7] fun K hK => ?_; (repeat' ((refine al_r rfl fun K' hK' => ?_); (repeat (simp only [go_sem, simprocAttr, hga, hnn, hi2, hnx, hwn, hset, hdl, Int.toNat_natCast, List.getElem?_map, Option.map_some, List.length_map])); ((refine hK' _ _ ?_) <;> clear hK' K'))); all_goals (refine al_nil ?_; (simp only [go_sem, simprocAttr, hga, hnn, hi2, hnx, hwn, hset, hdl, Int.toNat_natCast, List.getElem?_map, Option.map_some, List.length_map]); refine hK _ ?_; clear hK K))
              rw [if_pos hc] at hRC2
              have hV3 : V = ((0, e), S2) := by rw [hV, hRC2]; exact objK_err hc
              refine awp_ret (hR _ _ [0, 1, 2, 3, 4] (.inl rfl) rfl (by decide) (by simp only [List.length_cons, List.length_nil]; decide) ?_)
              rw [hV3]
              refine ⟨?_, ?_⟩ <;> simp only [go_sem, simprocAttr, hga, hnn, hi2, hnx, hwn, hset, hdl, Int.toNat_natCast, List.getElem?_map, Option.map_some, List.length_map, cpB, cpD]
            · rw [if_neg (by rw [hc]; exact Bool.false_ne_true)] at hRC2
              refine awp_skip ?_
              refine hK _ ?_; clear hK K
              (refine awp_reg_end [0, 2, 13, 56, 57, 58] fun K hK => ?_; (repeat' ((refine al_r rfl fun K' hK' => ?_); (repeat (simp only [go_sem, simprocAttr, hga, hnn, hi2, hnx, hwn, hset, hdl, Int.toNat_natCast, List.getElem?_map, Option.map_some, List.length_map])); ((refine hK' _ _ ?_) <;> clear hK' K'))); all_goals (refine al_nil ?_; (simp only [go_sem, simprocAttr, hga, hnn, hi2, hnx, hwn, hset, hdl, Int.toNat_natCast, List.getElem?_map, Option.map_some, List.length_map]); refine hK _ ?_; clear hK K))
              refine ⟨o.parts.length - (i + 1), by omega, [0, 2, 13, 56, 57, 58], [0, 1, 2, 3, 4, 5, 6], by decide, kept0123, i + 1, acc ++ [x], S2, Z.set i x, hi2, rfl, by simp [hacc], hS2, hRC2, hZ2, ?_⟩
              simp only [go_sem, simprocAttr, hga, hnn, hi2, hnx, hwn, hset, hdl, Int.toNat_natCast, List.getElem?_map, Option.map_some, List.length_map, cpB, cpD]

          · have hie : i = o.parts.length := by simp at hc; omega
            subst hie
            rw [List.drop_length, parts_nilK] at hRC
            have hV3 : V = putK S1 { o with parts := acc } := by
              rw [hV, hRC]
              exact objK_ok
            have hta : List.take o.parts.length (acc.map wrow) = acc.map wrow := List.take_of_length_le (by simp; omega)
            have hput := putC g S1 { o with parts := acc } a hoa (by rw [hS1.1]; exact hag) (by rw [hS1.1]; exact hg4) (by have := hS1.2; simp only [maxLen]; omega)
            rw [← hV3] at hput
            clear hV3 hV
            rw [List.drop_length, List.append_nil] at hZ
            subst hZ

            (refine awp_frz [0, 13] [0, 1, 2, 3, 4] (by decide) (by (exact kept0123)) ?_; simp only [go_sem, simprocAttr, List.length_map, hta, List.drop_zero])
            refine awp_exit ?_
            clear hK
            refine hK _ ?_; clear hK K
            (refine awp_reg_seq [6, 7] fun K hK => ?_; (repeat' ((refine al_r rfl fun K' hK' => ?_); (repeat (simp only [go_sem, simprocAttr, List.length_map, hta, List.drop_zero])); (first | ((refine hK' _ _ ?_) <;> clear hK' K') | ((show AC _ _ (D.fn 83 _) _ _); refine acall_m (f := 83) [0, 1, 4, 3] Try.call83 hput rfl rfl (by decide) (by simp) ?_; rintro r obs' ⟨rfl, rfl⟩; refine ⟨by simp, ?_⟩; (simp only [go_sem, simprocAttr, List.length_map, hta, List.drop_zero]); refine hK' _ _ ?_; clear hK' K')))); all_goals (refine al_nil ?_; (simp only [go_sem, simprocAttr, List.length_map, hta, List.drop_zero]); refine hK _ ?_; clear hK K))
            refine awp_ret (hR _ _ [0, 1, 2, 3, 5] (.inl rfl) rfl (by decide) (by simp only [List.length_cons, List.length_nil]; decide) ?_)
            refine ⟨?_, ?_⟩ <;> simp only [go_sem, simprocAttr, List.length_map, hta, List.drop_zero, cpB, cpD]
end Go.Proofs.Ytagphggcdmjlpaa.P

/- Carry's word as a whole, and Over. -/
namespace Go.Proofs.Ytagphggcdmjlpaa.P
open Go.Ab Go.Proofs.Ytagphggcdmjlpaa.T

theorem putS_len2 {h : List Int} {o : Obj} (he : (putS h o).2.2 = 0) : (putS h o).1.length ≤ 4000 := by
  unfold putS at he ⊢
  split at he
  · cases he
  · rename_i h1
    rw [if_neg h1]
    split at he
    · cases he
    · rename_i h2
      rw [if_neg h2]
      rw [decide_eq_true_eq] at h2
      show (h ++ encW o).length ≤ 4000
      rw [List.length_append, enc_len]; omega

theorem leftK_len {l : List Int} {o : Obj} {n : Nat} (ho : o.at_ = n) (hn : n ≤ l.length) : (leftK l o).length = l.length := by
  unfold leftK
  split
  · rw [ho, Int.toNat_natCast]
    exact over_length (by rw [List.length_take]; simp; omega)
  · rfl

theorem putK_ok {g : List Int} {S : CT} {o : Obj} {n : Nat} (hS : CtOk g S) (ho : o.at_ = n) (hn : n ≤ g.length) : CtOk g (putK S o).2 := by
  unfold putK
  by_cases hg : (putS S.2.1 o).2.2 = 0
  · rw [if_neg (by simp [hg])]
    exact ⟨by show (leftK S.1 o).length = _; rw [leftK_len ho (by rw [hS.1]; exact hn), hS.1], putS_len2 hg⟩
  · rw [if_pos (by simpa using hg)]
    exact hS

theorem partsK_ok {g : List Int} {F : CT → Int → (Int × Int) × CT} : ∀ (ps acc : List Int) (S : CT), CtOk g S → (∀ S p, p ∈ ps → CtOk g S → CtOk g (F S p).2) → CtOk g (partsK F S ps acc).2
  | [], _, S, hS, _ => hS
  | p :: l, acc, S, hS, hF => by
    rw [parts_consK]
    have h1 := hF S p List.mem_cons_self hS
    split
    · exact h1
    · exact partsK_ok l _ _ h1 fun S q hq => hF S q (List.mem_cons_of_mem _ hq)

theorem wordK_triv {g : List Int} {S : CT} {w : Int} (n : Nat) (h : ((readS w).2.2 != 0 || (readS w).1 != 4) = true) : wordK g n S w = ((w, (readS w).2.2), S) := by
  cases n with
  | zero => rw [wordK]; exact stepK_triv h
  | succ n => rw [wordK]; exact stepK_triv h
theorem wordK_done {g : List Int} {S : CT} {w x : Int} (n : Nat) (h : ¬ ((readS w).2.2 != 0 || (readS w).1 != 4) = true) (hl : lk S.2.2 (readS w).2.1 = some x) : wordK g n S w = ((x, 0), S) := by
  cases n with
  | zero => rw [wordK]; exact stepK_done h hl
  | succ n => rw [wordK]; exact stepK_done h hl
theorem wordK_deep {g : List Int} {S : CT} {w : Int} (h : ¬ ((readS w).2.2 != 0 || (readS w).1 != 4) = true) (hl : lk S.2.2 (readS w).2.1 = none) : wordK g 0 S w = ((0, 2), S) := by
  rw [wordK]; exact stepK_none h hl
theorem wordK_none {g : List Int} {S : CT} {w : Int} {n : Nat} (h : ¬ ((readS w).2.2 != 0 || (readS w).1 != 4) = true) (hl : lk S.2.2 (readS w).2.1 = none) (he : ((atS g (readS w).2.1).2 != 0) = true) : wordK g (n + 1) S w = ((0, (atS g (readS w).2.1).2), S) := by
  rw [wordK, stepK_none h hl]; exact goK_none he
theorem wordK_obj {g : List Int} {S : CT} {w : Int} {n : Nat} {o : Obj} (h : ¬ ((readS w).2.2 != 0 || (readS w).1 != 4) = true) (hl : lk S.2.2 (readS w).2.1 = none) (ho : atS g (readS w).2.1 = (o, 0)) :
    wordK g (n + 1) S w = objK (partsK (wordK g n) S o.parts []) (putK (partsK (wordK g n) S o.parts []).2 { o with parts := (partsK (wordK g n) S o.parts []).1.1 }) := by
  rw [wordK, stepK_none h hl, ho]; exact goK_obj

theorem finK2 {f : FuncId} {args : List D} {obs : List Ob} {g : List Int} {U : (Int × Int) × CT} (W : (Int × Int) × CT) (h0 : W = U) (h : ACalls Try.prog f args obs (fun r obs' => r = .tup [wD U.1.1, iD U.1.2] ∧ obs' = cpB g U.2)) :
    ACalls Try.prog f args obs (fun r obs' => r = .tup [wD W.1.1, iD W.1.2] ∧ obs' = cpB g W.2) := by
  subst h0; exact h

theorem wordKc (g : List Int) (hg4 : g.length ≤ 4000) (hok : ∀ w, w ∈ g → WordOk w) : ∀ (n : Nat), n ≤ 1000 → ∀ (S : CT) (w : Int), CtOk g S →
    ACalls Try.prog 59 [.ptr 0 0 0, wD w, iD n] (cpA g S) (fun r obs' => r = .tup [wD (wordK g n S w).1.1, iD (wordK g n S w).1.2] ∧ obs' = cpB g (wordK g n S w).2) ∧ CtOk g (wordK g n S w).2 := by
  intro n
  induction n with
  | zero =>
    intro _ S w hS
    have hrd := readW w
    by_cases h1 : ((readS w).2.2 != 0 || (readS w).1 != 4) = true
    · have e := wordK_triv (g := g) (S := S) 0 h1
      exact ⟨finK _ e (carryTriv g S w _ _ _ _ hrd h1), by rw [e]; exact hS⟩
    · have hrd2 := hrd
      simp only [Bool.or_eq_true, not_or, bne_iff_ne, ne_eq, Decidable.not_not] at h1
      rw [h1.1, h1.2] at hrd2
      have h1 : ¬ ((readS w).2.2 != 0 || (readS w).1 != 4) = true := by rw [h1.1, h1.2]; simp
      cases hl : lk S.2.2 (readS w).2.1 with
      | some x =>
        have e := wordK_done (g := g) 0 h1 hl
        exact ⟨finK _ e (carryDone g S w _ _ x hrd2 hl), by rw [e]; exact hS⟩
      | none =>
        have e := wordK_deep (g := g) h1 hl
        exact ⟨finK _ e (carryDeep g S w _ hrd2 hl), by rw [e]; exact hS⟩
  | succ n ih =>
    intro hn S w hS
    have hrd := readW w
    by_cases h1 : ((readS w).2.2 != 0 || (readS w).1 != 4) = true
    · have e := wordK_triv (g := g) (S := S) (n + 1) h1
      exact ⟨finK _ e (carryTriv g S w _ _ _ _ hrd h1), by rw [e]; exact hS⟩
    · have hrd2 := hrd
      simp only [Bool.or_eq_true, not_or, bne_iff_ne, ne_eq, Decidable.not_not] at h1
      rw [h1.1, h1.2] at hrd2
      have h1 : ¬ ((readS w).2.2 != 0 || (readS w).1 != 4) = true := by rw [h1.1, h1.2]; simp
      cases hl : lk S.2.2 (readS w).2.1 with
      | some x =>
        have e := wordK_done (g := g) (n + 1) h1 hl
        exact ⟨finK _ e (carryDone g S w _ _ x hrd2 hl), by rw [e]; exact hS⟩
      | none =>
        by_cases he : (atS g (readS w).2.1).2 = 0
        · have ho : atS g (readS w).2.1 = ((atS g (readS w).2.1).1, 0) := by rw [← he]
          have e := wordK_obj (n := n) h1 hl ho
          obtain ⟨a, ea, hag, hoa, hri, _⟩ := at_ok he (by simp only [maxLen]; omega) hok
          have hat := atP g _ _ (by simp only [maxLen]; omega) hok ho
          have hpl := (right_small hri).2
          generalize (atS g (readS w).2.1).1 = o at *
          rw [ea] at hrd2 hl hat
          have hF : ∀ S p, p ∈ o.parts → CtOk g S → ACalls Try.prog 59 [.ptr 0 0 0, wD p, iD (((n + 1 : Nat) : Int) - 1)] (cpA g S) (fun r obs' => r = .tup [wD (wordK g n S p).1.1, iD (wordK g n S p).1.2] ∧ obs' = cpB g (wordK g n S p).2) ∧ CtOk g (wordK g n S p).2 := fun S p _ hS => by
            rw [show ((n + 1 : Nat) : Int) - 1 = (n : Int) by omega]
            exact ih (by omega) S p hS
          refine ⟨finK2 _ e (carryParts g (wordK g n) S w ((n + 1 : Nat) : Int) a o (by omega) (by omega) hrd2 hl hat hoa (by omega) hg4 hpl hS hF), ?_⟩
          rw [e]
          have h2 := partsK_ok o.parts [] S hS fun S p hp hS => (hF S p hp hS).2
          unfold objK
          split
          · exact h2
          · exact putK_ok h2 hoa (by omega)
        · have e := wordK_none (n := n) h1 hl (by simpa using he)
          exact ⟨finK _ e (carryNone g S w _ _ _ _ (by omega) (by simpa using he) hrd2 hl (at_ g _ (by simp only [maxLen]; omega) hok)), by rw [e]; exact hS⟩
end Go.Proofs.Ytagphggcdmjlpaa.P

