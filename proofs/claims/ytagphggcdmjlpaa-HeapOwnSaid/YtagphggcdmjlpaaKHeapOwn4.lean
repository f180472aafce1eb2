/- Texts of this proof, joined: Y9, Y10, Y11, Y12, Y13, B1, AbP, B2, B3, B4, B5, O1, Y17. -/
import Derived.Test.YtagphggcdmjlpaaKHeapOwn3
set_option linter.unusedSimpArgs false
set_option linter.unusedVariables false
set_option maxHeartbeats 1000000
/- The object at a place of a heap that is the caller's own row: the walk. -/
namespace Go.Proofs.Ytagphggcdmjlpaa.P
open Go.Ab Go.Proofs.Ytagphggcdmjlpaa.T


theorem atO_ (h : List Int) (a : Int) (hlen : h.length ≤ maxLen) (hok : ∀ w, w ∈ h → WordOk w) : ACalls Try.prog 19 [.ref 0 0 h.length, iD a] [.row 1 (h.map wrow)] (fun r obs' => r = .tup [objD (atS h a).1, iD (atS h a).2] ∧ obs' = [.row 1 (h.map wrow)]) := by
  obtain ⟨R0, hR0⟩ : ∃ R0, R0 = atS h a := ⟨_, rfl⟩
  have hv : R0 = if decide (a < 0) || decide (a ≥ h.length) then (z0, 4) else
    match h[a.toNat]? with
    | none => (z0, 0)
    | some w => if (w.fdiv (2 ^ min 32 64) != 0) || decide ((roomN (kN w) (tN w).toNat (pN w).toNat : Int) > h.length - a) then (z0, 3) else atR h a.toNat (kN w) (tN w).toNat (pN w).toNat := hR0
  rw [← hR0]
  clear hR0
  refine acallm_fnv [.cell 4 30, .tmp 5] Try.func19 rfl rfl Try.ntmps19 (by simp) (by simp) fun R hR => ?_
  (refine awp_reg_seq [0, 1, 4] fun K hK => ?_; (repeat' ((refine al_r rfl fun K' hK' => ?_); (repeat (simp only [go_sem, simprocAttr, List.length_map])); ((refine hK' _ _ ?_) <;> clear hK' K'))); all_goals (refine al_nil ?_; (simp only [go_sem, simprocAttr, List.length_map]); refine hK _ ?_; clear hK K))
  refine awp_seq_k fun K hK => ?_
  (refine awp_reg_tov [0, 1, 4, 23] [(23, bD (decide (a < 0) || decide (a ≥ (h.length : Int))))] (h := ?_) (k := ?_); · ((repeat' (first | ((first | refine al_r rfl fun K' hK' => ?_ | refine al_t rfl rfl fun K' hK' => ?_); (repeat (simp only [go_sem, simprocAttr, List.length_map])); ((first | refine hK' _ _ ?_ | refine ⟨?_, hK' _ _ ?_⟩) <;> clear hK' K' <;> (first | (show alist _ _ _ _ _ _; skip) | (intro s hs; cases hs; done)))) | refine al_e rfl rfl ?_ | ((fail_if_success (refine al_t rfl rfl fun K' hK' => ?_)); refine al_s _ rfl rfl rfl (fun hb => ?_) (fun hb => ?_)))); all_goals (refine al_nil ?_; simp only [go_sem, simprocAttr, List.length_map, *, Bool.and_true, Bool.and_false, Bool.true_and, Bool.false_and, Bool.or_true, Bool.true_or, Bool.or_false, Bool.false_or, Bool.not_true, Bool.not_false, Bool.false_eq_true]))); intro K hK; (simp only [go_sem, simprocAttr, List.length_map]); refine hK _ ?_; clear hK K
  refine awp_if (_) rfl (fun hc => ?_) (fun hc => ?_)
  · (refine awp_reg_seq [4, 5] fun K hK => ?_; (repeat' ((first | refine al_r rfl fun K' hK' => ?_ | refine al_d rfl fun K' hK' => ?_); (repeat (first | (simp only [go_sem, simprocAttr, List.length_map]) | refine AS.mk ?_)); ((first | refine hK' _ _ ?_ | refine ⟨?_, hK' _ _ ?_⟩) <;> clear hK' K' <;> (first | (show alist _ _ _ _ _ _; skip) | (simp; done))))); all_goals (refine al_nil ?_; (simp only [go_sem, simprocAttr, List.length_map]); refine hK _ ?_; clear hK K))
    rw [if_pos hc] at hv
    (refine awp_frz [4, 5] [0] (by decide) (by (simp; done)) ?_; simp only [go_sem, simprocAttr, List.length_map])
    refine awp_ret (hR _ _ (.inl rfl) rfl ⟨[0], (.tup [objD R0.1, iD R0.2]), by decide, by simp only [List.length_cons, List.length_nil]; decide, ?_, ?_⟩)
    · rw [hv]
      simp only [go_sem, simprocAttr, List.length_map, objD, List.map_nil]
      try rfl
    · refine ⟨?_, ?_⟩ <;> simp only [go_sem, simprocAttr, List.length_map, objD]
  · rw [if_neg (by rw [hc]; simp)] at hv
    have hc0 := hc
    simp only [Bool.or_eq_false_iff, decide_eq_false_iff_not] at hc0
    obtain ⟨n, rfl⟩ := Int.eq_ofNat_of_zero_le (show 0 ≤ a by omega)
    have hnl : n < h.length := by omega
    obtain ⟨w, hw⟩ := get_of_lt hnl
    rw [Int.toNat_natCast, hw] at hv
    simp only at hv
    have hn0 : (0 : Int) ≤ (n : Int) := Int.natCast_nonneg n
    have hwok := hok w (List.mem_of_getElem? hw)
    obtain ⟨t, ht, ht4⟩ := tN_ok hwok
    obtain ⟨p, hp, hp4⟩ := pN_ok hwok
    have hkN : IntKind.i64.wrap (bits .and .u64 w 255) = kN w := rfl
    have htN : IntKind.i64.wrap (bits .and .u64 (w.fdiv (2 ^ min 8 64)) 4095) = (t : Int) := ht
    have hpN : IntKind.i64.wrap (bits .and .u64 (w.fdiv (2 ^ min 20 64)) 4095) = (p : Int) := hp
    rw [ht, hp, Int.toNat_natCast, Int.toNat_natCast] at hv
    generalize kN w = k at *
    have hro := room k t p (by omega) (by omega)
    have hwr : IntKind.i64.wrap ((h.length : Int) - (n : Int)) = (h.length : Int) - (n : Int) := by
      simp [maxLen] at hlen
      rw [Go.Ab.wrap_small (by omega) (by omega)]

    refine awp_skip ?_
    refine hK _ ?_; clear hK K
    (refine awp_reg_seq [0, 1, 4, 6] fun K hK => ?_; (repeat' ((refine al_r rfl fun K' hK' => ?_); (repeat (simp only [go_sem, simprocAttr, List.length_map, hw, hnl, hn0, hkN, htN, hpN, hwr, Int.toNat_natCast, List.getElem?_map, Option.map_some])); ((first | refine hK' _ _ ?_ | refine ⟨?_, hK' _ _ ?_⟩) <;> clear hK' K' <;> (first | (show alist _ _ _ _ _ _; skip) | omega)))); all_goals (refine al_nil ?_; (simp only [go_sem, simprocAttr, List.length_map, hw, hnl, hn0, hkN, htN, hpN, hwr, Int.toNat_natCast, List.getElem?_map, Option.map_some]); refine hK _ ?_; clear hK K))
    (refine awp_reg_seq [0, 1, 4, 6, 7, 8, 9] fun K hK => ?_; (repeat' ((refine al_r rfl fun K' hK' => ?_); (repeat (simp only [go_sem, simprocAttr, List.length_map, hw, hnl, hn0, hkN, htN, hpN, hwr, Int.toNat_natCast, List.getElem?_map, Option.map_some])); ((refine hK' _ _ ?_) <;> clear hK' K'))); all_goals (refine al_nil ?_; (simp only [go_sem, simprocAttr, List.length_map, hw, hnl, hn0, hkN, htN, hpN, hwr, Int.toNat_natCast, List.getElem?_map, Option.map_some]); refine hK _ ?_; clear hK K))
    refine awp_seq_k fun K hK => ?_
    (refine awp_reg_tov [0, 1, 4, 7, 8, 9, 53] [(53, bD ((w.fdiv (2 ^ min 32 64) != 0) || decide ((roomN k t p : Int) > (h.length : Int) - (n : Int))))] (h := ?_) (k := ?_); · ((repeat' (first | ((first | refine al_r rfl fun K' hK' => ?_ | refine al_t rfl rfl fun K' hK' => ?_); (repeat (simp only [go_sem, simprocAttr, List.length_map, hw, hnl, hn0, hkN, htN, hpN, hwr, Int.toNat_natCast, List.getElem?_map, Option.map_some])); (first | ((first | refine hK' _ _ ?_ | refine ⟨?_, hK' _ _ ?_⟩) <;> clear hK' K' <;> (first | (show alist _ _ _ _ _ _; skip) | (intro s hs; cases hs; done))) | ((show AC _ _ (D.fn 51 _) _ _); refine acall_p (f := 51) (e := rfl) (hr := rfl) (k := hK' _ _ ?_) (hc := Try.call51) (h := hro); clear hK' K'))) | refine al_e rfl rfl ?_ | ((fail_if_success (refine al_t rfl rfl fun K' hK' => ?_)); refine al_s _ rfl rfl rfl (fun hb => ?_) (fun hb => ?_)))); all_goals (refine al_nil ?_; simp only [go_sem, simprocAttr, List.length_map, hw, hnl, hn0, hkN, htN, hpN, hwr, Int.toNat_natCast, List.getElem?_map, Option.map_some, *, Bool.and_true, Bool.and_false, Bool.true_and, Bool.false_and, Bool.or_true, Bool.true_or, Bool.or_false, Bool.false_or, Bool.not_true, Bool.not_false, Bool.false_eq_true]))); intro K hK; (simp only [go_sem, simprocAttr, List.length_map, hw, hnl, hn0, hkN, htN, hpN, hwr, Int.toNat_natCast, List.getElem?_map, Option.map_some]); refine hK _ ?_; clear hK K
    refine awp_if (_) rfl (fun hc => ?_) (fun hc => ?_)
    · (refine awp_reg_seq [4, 5] fun K hK => ?_; (repeat' ((first | refine al_r rfl fun K' hK' => ?_ | refine al_d rfl fun K' hK' => ?_); (repeat (first | (simp only [go_sem, simprocAttr, List.length_map, hw, hnl, hn0, hkN, htN, hpN, hwr, Int.toNat_natCast, List.getElem?_map, Option.map_some]) | refine AS.mk ?_)); ((first | refine hK' _ _ ?_ | refine ⟨?_, hK' _ _ ?_⟩) <;> clear hK' K' <;> (first | (show alist _ _ _ _ _ _; skip) | (simp; done))))); all_goals (refine al_nil ?_; (simp only [go_sem, simprocAttr, List.length_map, hw, hnl, hn0, hkN, htN, hpN, hwr, Int.toNat_natCast, List.getElem?_map, Option.map_some]); refine hK _ ?_; clear hK K))
      rw [if_pos hc] at hv
      (refine awp_frz [4, 5] [0] (by decide) (by (simp; done)) ?_; simp only [go_sem, simprocAttr, List.length_map, hw, hnl, hn0, hkN, htN, hpN, hwr, Int.toNat_natCast, List.getElem?_map, Option.map_some])
      refine awp_ret (hR _ _ (.inl rfl) rfl ⟨[0], (.tup [objD R0.1, iD R0.2]), by decide, by simp only [List.length_cons, List.length_nil]; decide, ?_, ?_⟩)
      · rw [hv]
        simp only [go_sem, simprocAttr, List.length_map, hw, hnl, hn0, hkN, htN, hpN, hwr, Int.toNat_natCast, List.getElem?_map, Option.map_some, objD, List.map_nil]
        try rfl
      · refine ⟨?_, ?_⟩ <;> simp only [go_sem, simprocAttr, List.length_map, hw, hnl, hn0, hkN, htN, hpN, hwr, Int.toNat_natCast, List.getElem?_map, Option.map_some, objD]
    · rw [if_neg (by rw [hc]; simp)] at hv
      have hroom : n + roomN k t p ≤ h.length := by
        simp only [Bool.or_eq_false_iff, decide_eq_false_iff_not] at hc
        omega
      clear hro
      have hn1 : IntKind.i64.wrap ((n : Int) + 1) = ((n + 1 : Nat) : Int) := by
        simp [maxLen] at hlen
        rw [Go.Ab.wrap_small (by omega) (by omega)]; rfl

      refine awp_skip ?_
      refine hK _ ?_; clear hK K
      (refine awp_reg_seq [0, 1, 4, 7, 8, 9, 10] fun K hK => ?_; (repeat' ((first | refine al_r rfl fun K' hK' => ?_ | refine al_d rfl fun K' hK' => ?_); (repeat (first | (simp only [go_sem, simprocAttr, List.length_map, hn1]) | refine AS.mk ?_)); ((first | refine hK' _ _ ?_ | refine ⟨?_, hK' _ _ ?_⟩) <;> clear hK' K' <;> (first | (show alist _ _ _ _ _ _; skip) | (simp; done))))); all_goals (refine al_nil ?_; (simp only [go_sem, simprocAttr, List.length_map, hn1]); refine hK _ ?_; clear hK K))
      (refine awp_reg_seq [0, 1, 4, 7, 8, 9, 10] fun K hK => ?_; (repeat' ((refine al_r rfl fun K' hK' => ?_); (repeat (simp only [go_sem, simprocAttr, List.length_map, hn1])); ((refine hK' _ _ ?_) <;> clear hK' K'))); all_goals (refine al_nil ?_; (simp only [go_sem, simprocAttr, List.length_map, hn1]); refine hK _ ?_; clear hK K))
      refine awp_seq_kc fun K hK hcut => ?_
      have key : ∀ (a1 : Nat) (num : Int), n < a1 → a1 + (t + 7) / 8 + p ≤ h.length → R0 = atO h n (objO h n k num t p a1) (a1 + (t + 7) / 8 + p - n) → K ⟨ofL [(0, .ref 0 0 h.length), (1, iD a1), (4, .ptr 1 0 0), (8, iD t), (9, iD p), (10, .ptr 2 0 0)], [.row 1 (h.map wrow), .box [iD 0, iD 0, iD 0, .p (.lit (.string ByteArray.empty)), .nil], .box [iD n, iD k, iD num, .p (.lit (.string ByteArray.empty)), .nil]], 1⟩ := by
        clear hcut
        intro a1 num ha1 hfit hR1
        clear hv
        simp [maxLen] at hlen
        refine hK _ ?_; clear hK K
        (refine awp_reg_seq [0, 1, 4, 8, 9, 10, 11] fun K hK => ?_; (repeat' ((refine al_r rfl fun K' hK' => ?_); (repeat (simp only [go_sem, simprocAttr, List.length_map, hn1])); ((refine hK' _ _ ?_) <;> clear hK' K'))); all_goals (refine al_nil ?_; (simp only [go_sem, simprocAttr, List.length_map, hn1]); refine hK _ ?_; clear hK K))
        refine awp_born 11 1 rfl ?_
        refine awp_seq_k fun K hK => ?_
        (refine awp_reg_seq [0, 1, 4, 8, 9, 10, 11, 74, 75] fun K hK => ?_; (repeat' ((refine al_r rfl fun K' hK' => ?_); (repeat (simp only [go_sem, simprocAttr, List.length_map, hn1])); ((refine hK' _ _ ?_) <;> clear hK' K'))); all_goals (refine al_nil ?_; (simp only [go_sem, simprocAttr, List.length_map, hn1]); refine hK _ ?_; clear hK K))
        refine awp_block ?_
        -- loop 0 head [0, 1, 4, 8, 9, 10, 11, 74, 75]
        refine awp_loop_cut (fun m s => ∃ i : Nat, i ≤ t ∧ m = t - i ∧ s = ⟨ofL [(0, .ref 0 0 h.length), (1, iD a1), (4, .ptr 1 0 0), (8, iD t), (9, iD p), (10, .ptr 2 0 0), (11, .ref 3 0 i), (74, iD t), (75, iD i)], [.row 1 (h.map wrow), .box [iD 0, iD 0, iD 0, .p (.lit (.string ByteArray.empty)), .nil], .box [iD n, iD k, iD num, .p (.lit (.string ByteArray.empty)), .nil], .row 1 ((bytesN h a1 i).map brow)], 1⟩) ⟨_, 0, Nat.zero_le _, rfl, rfl⟩ ?_
        rintro m s ⟨i, hi, hmi, rfl⟩
        (refine awp_reg_seq [0, 1, 4, 8, 9, 10, 11, 74, 75, 76] fun K hK => ?_; (repeat' ((refine al_r rfl fun K' hK' => ?_); (repeat (simp only [go_sem, simprocAttr, List.length_map, hn1])); ((refine hK' _ _ ?_) <;> clear hK' K'))); all_goals (refine al_nil ?_; (simp only [go_sem, simprocAttr, List.length_map, hn1]); refine hK _ ?_; clear hK K))
        refine awp_seq_k fun K hK => ?_
        refine awp_if (decide ((i : Int) < (t : Int))) rfl (fun hc => ?_) (fun hc => ?_)
        · refine awp_skip ?_
          refine hK _ ?_; clear hK K
          refine awp_seq_k fun K hK => ?_
          refine awp_block ?_
          have hi2 : i < t := by simpa using hc
          obtain ⟨u, hget⟩ := get_of_lt (l := h) (i := a1 + i / 8) (by omega)
          have hgl := lt_of_get hget
          have hg0 : (0 : Int) ≤ ((a1 + i / 8 : Nat) : Int) := Int.natCast_nonneg _
          have hix : IntKind.i64.wrap ((i : Int) + 1) = ((i + 1 : Nat) : Int) := by rw [Go.Ab.wrap_small (by omega) (by omega)]; rfl
          have hq8 : IntKind.i64.wrap ((i : Int).tdiv 8) = ((i / 8 : Nat) : Int) := by
            rw [Int.tdiv_eq_ediv_of_nonneg (by omega), Go.Ab.wrap_small (by omega) (by omega)]; omega
          have hqa : IntKind.i64.wrap ((a1 : Int) + ((i / 8 : Nat) : Int)) = ((a1 + i / 8 : Nat) : Int) := by rw [Go.Ab.wrap_small (by omega) (by omega)]; rfl
          have hrm : (i : Int).tmod 8 = ((i % 8 : Nat) : Int) := by rw [Int.tmod_eq_emod_of_nonneg (by omega)]; omega
          have hm8 : IntKind.i64.wrap (8 * ((i % 8 : Nat) : Int)) = ((8 * (i % 8) : Nat) : Int) := by rw [Go.Ab.wrap_small (by omega) (by omega)]; omega
          have h80 : (0 : Int) ≤ ((8 * (i % 8) : Nat) : Int) := Int.natCast_nonneg _
          have hby : IntKind.u8.wrap (u.fdiv (2 ^ min (8 * (i % 8)) 64)) = byteN h a1 i := by unfold byteN; simp [List.getD, hget]
          have hti : List.take i ((bytesN h a1 i).map brow) = (bytesN h a1 i).map brow := List.take_of_length_le (by simp [bytesN])
          have hbl : (bytesN h a1 i).length = i := by simp [bytesN]
          have hfi : (i + 1) * 1 ≤ 140737488355328 := by omega

          (refine awp_reg_seq [0, 1, 4, 8, 9, 10, 11, 12, 74, 75] fun K hK => ?_; (repeat' ((refine al_r rfl fun K' hK' => ?_); (repeat (simp only [go_sem, simprocAttr, hget, hgl, hg0, hix, hq8, hqa, hrm, hm8, h80, hby, hti, hbl, hfi, Int.toNat_natCast, List.getElem?_map, Option.map_some, List.length_map, List.drop_zero, Nat.mul_one])); ((refine hK' _ _ ?_) <;> clear hK' K'))); all_goals (refine al_nil ?_; (simp only [go_sem, simprocAttr, hget, hgl, hg0, hix, hq8, hqa, hrm, hm8, h80, hby, hti, hbl, hfi, Int.toNat_natCast, List.getElem?_map, Option.map_some, List.length_map, List.drop_zero, Nat.mul_one]); refine hK _ ?_; clear hK K))
          (refine awp_reg_end [0, 1, 4, 8, 9, 10, 11, 74, 75] fun K hK => ?_; (repeat' ((refine al_r rfl fun K' hK' => ?_); (repeat (first | (simp only [go_sem, simprocAttr, hget, hgl, hg0, hix, hq8, hqa, hrm, hm8, h80, hby, hti, hbl, hfi, Int.toNat_natCast, List.getElem?_map, Option.map_some, List.length_map, List.drop_zero, Nat.mul_one]) | refine AAp.grow ?_)); ((first | refine hK' _ _ ?_ | refine ⟨?_, hK' _ _ ?_⟩ | refine ⟨?_, ?_, ?_, hK' _ _ ?_⟩) <;> clear hK' K' <;> (first | (show alist _ _ _ _ _ _; skip) | (simp; done) | omega)))); all_goals (refine al_nil ?_; (simp only [go_sem, simprocAttr, hget, hgl, hg0, hix, hq8, hqa, hrm, hm8, h80, hby, hti, hbl, hfi, Int.toNat_natCast, List.getElem?_map, Option.map_some, List.length_map, List.drop_zero, Nat.mul_one]); refine hK _ ?_; clear hK K))
          refine hK _ ?_; clear hK K
          (refine awp_reg_end [0, 1, 4, 8, 9, 10, 11, 74, 75] fun K hK => ?_; (repeat' ((refine al_r rfl fun K' hK' => ?_); (repeat (simp only [go_sem, simprocAttr, hget, hgl, hg0, hix, hq8, hqa, hrm, hm8, h80, hby, hti, hbl, hfi, Int.toNat_natCast, List.getElem?_map, Option.map_some, List.length_map, List.drop_zero, Nat.mul_one])); ((refine hK' _ _ ?_) <;> clear hK' K'))); all_goals (refine al_nil ?_; (simp only [go_sem, simprocAttr, hget, hgl, hg0, hix, hq8, hqa, hrm, hm8, h80, hby, hti, hbl, hfi, Int.toNat_natCast, List.getElem?_map, Option.map_some, List.length_map, List.drop_zero, Nat.mul_one]); refine hK _ ?_; clear hK K))
          refine ⟨t - (i + 1), by omega, [0, 1, 4, 8, 9, 10, 11, 74, 75], [0, 1, 2, 5], by decide, (by intro q hq; have : q = 0 := Nat.lt_one_iff.1 hq; subst this; rfl), i + 1, hi2, rfl, ?_⟩
          rw [bytesN_succ, List.map_append]
          simp only [go_sem, simprocAttr, hget, hgl, hg0, hix, hq8, hqa, hrm, hm8, h80, hby, hti, hbl, hfi, Int.toNat_natCast, List.getElem?_map, Option.map_some, List.length_map, List.drop_zero, Nat.mul_one]
        · have hit : t = i := by simp at hc; omega
          subst hit
          have htB : List.take t ((bytesN h a1 t).map brow) = (bytesN h a1 t).map brow := List.take_of_length_le (by simp [bytesN])
          have hbb : ((bytesN h a1 t).map brow).mapM oneB = some (bytesN h a1 t) := bytes_map _
          have h7a : IntKind.i64.wrap ((t : Int) + 7) = ((t + 7 : Nat) : Int) := by rw [Go.Ab.wrap_small (by omega) (by omega)]; rfl
          have h7b : IntKind.i64.wrap (((t + 7 : Nat) : Int).tdiv 8) = (((t + 7) / 8 : Nat) : Int) := by
            rw [Int.tdiv_eq_ediv_of_nonneg (by omega), Go.Ab.wrap_small (by omega) (by omega)]; omega
          have h7c : IntKind.i64.wrap ((a1 : Int) + (((t + 7) / 8 : Nat) : Int)) = ((a1 + (t + 7) / 8 : Nat) : Int) := by rw [Go.Ab.wrap_small (by omega) (by omega)]; rfl
          generalize hA2 : a1 + (t + 7) / 8 = a2 at *
          have hAp : IntKind.i64.wrap ((a2 : Int) + (p : Int)) = ((a2 + p : Nat) : Int) := by rw [Go.Ab.wrap_small (by omega) (by omega)]; rfl
          have ha0 : (0 : Int) ≤ (a2 : Int) := Int.natCast_nonneg _
          have ha01 : (0 : Int) ≤ ((a2 + p : Nat) : Int) := Int.natCast_nonneg _
          have ha3 : ((a2 + p : Nat) : Int) ≤ (h.length : Int) := by omega
          have ha4 : (a2 : Int) ≤ ((a2 + p : Nat) : Int) := by omega
          have hrw := wrow1 h
          obtain ⟨P, hP⟩ : ∃ P, P = (h.drop a2).take p := ⟨_, rfl⟩
          have hPl : P.length = p := by rw [hP]; exact cut_len h (by omega)
          have hPw := wrow1 P
          have hdt : List.drop a2 (List.take (a2 + p) (h.map wrow)) = P.map wrow := by rw [hP, List.drop_take, Nat.add_sub_cancel_left, List.map_take, List.map_drop]
          have hdt2 : List.take p (List.drop a2 (h.map wrow)) = P.map wrow := by rw [← hdt, List.drop_take, Nat.add_sub_cancel_left]
          have hdt3 : a2 + p - a2 = p := by omega
          have hPt : List.take p (P.map wrow) = P.map wrow := List.take_of_length_le (by simp [hPl])
          have hPf : p * 8 ≤ 140737488355328 := by omega

          refine awp_exit ?_
          clear hK
          refine hK _ ?_; clear hK K
          (refine awp_reg_seq [0, 1, 4, 9, 10] fun K hK => ?_; (repeat' ((first | refine al_r rfl fun K' hK' => ?_ | refine al_d rfl fun K' hK' => ?_); (repeat (first | (simp only [go_sem, simprocAttr, List.length_map, htB, hbb, h7a, h7b, h7c, List.drop_zero]) | refine AS.mk ?_)); ((first | refine hK' _ _ ?_ | refine ⟨?_, hK' _ _ ?_⟩) <;> clear hK' K' <;> (first | (show alist _ _ _ _ _ _; skip) | (simp; done))))); all_goals (refine al_nil ?_; (simp only [go_sem, simprocAttr, List.length_map, htB, hbb, h7a, h7b, h7c, List.drop_zero]); refine hK _ ?_; clear hK K))
          (refine awp_frz [0, 1, 4, 9, 10] [0, 1, 2] (by decide) (by (simp; done)) ?_; simp only [go_sem, simprocAttr, List.length_map, htB, hbb, h7a, h7b, h7c, List.drop_zero])
          refine awp_born_box 2 4 1 rfl rfl ?_
          simp only [go_sem, simprocAttr, List.length_map, htB, hbb, h7a, h7b, h7c, List.drop_zero]

          refine awp_draw_seq (by kernel_rfl) [0, 1, 4, 9, 10] fun K hK => ?_
          have key : K (⟨ofL [(0, .ref 0 0 h.length), (1, iD a2), (4, .ptr 1 0 0), (9, iD p), (10, .ptr 2 0 0)], [.row 1 (h.map wrow), .box [iD 0, iD 0, iD 0, .p (.lit (.string ByteArray.empty)), .nil], .box [iD n, iD k, iD num, .p (.lit (.string (pushB (bytesN h a1 t)))), .ref 4 0 p], .dead, .row 1 (P.map wrow)], 1⟩) := by
            refine hK _ ?_; clear hK K
            (refine awp_frz [0, 1, 4, 9, 10] [0, 1] (by decide) (by (simp; done)) ?_; simp only [go_sem, simprocAttr, List.length_map, hdt2, hdt3, hdt, hPl, hPt, hPf, hAp, Nat.zero_add, ha0, ha01, ha3, ha4, Int.toNat_natCast, List.take_nil, List.take_zero, List.nil_append])
            obtain ⟨o, ho⟩ : ∃ o : Obj, o = ⟨n, k, num, pushB (bytesN h a1 t), P⟩ := ⟨_, rfl⟩
            have hoo : objO h n k num t p a1 = o := by unfold objO; rw [ho, hA2, hP]
            have hpu0 : ACallP Try.prog 17 [.nil, objD o] _ := ACallP.soft (put [] o (by simp)) rfl
            have hR2 : R0 = if ((putS [] o).2.2 != 0) || !(listEq eqI (putS [] o).1 ((h.drop n).take (a2 + p - n))) then (z0, 3) else (o, 0) := by rw [hR1, hoo]; rfl
            have hxl := put_len [] o (by simp)
            have heq := equalW (putS [] o).1 ((h.drop n).take (a2 + p - n)) (by simp at hxl; simp [maxLen]; omega)
            generalize putS [] o = X at hpu0 hR2 heq
            obtain ⟨x, y, e⟩ := X
            simp only at hpu0 hR2 heq
            generalize listEq eqI x ((h.drop n).take (a2 + p - n)) = le at heq hR2
            have hdn : List.drop n (List.take (a2 + p) (h.map wrow)) = ((h.drop n).take (a2 + p - n)).map wrow := by rw [List.drop_take, List.map_take, List.map_drop]
            have heq2 : ACallP Try.prog 18 [words x, .p (.sl (List.take (a2 + p - n) (List.drop n (h.map wrow))))] (bD le) := by rw [← List.map_drop, ← List.map_take]; exact heq
            have hnle : (n : Int) ≤ ((a2 + p : Nat) : Int) := by omega
            have hov : o.at_ = n ∧ o.kind = k ∧ o.num = num ∧ o.text = pushB (bytesN h a1 t) ∧ o.parts = P := by rw [ho]; exact ⟨rfl, rfl, rfl, rfl, rfl⟩
            obtain ⟨v1, v2, v3, v4, v5⟩ := hov
            clear ho hoo hR1
            rw [← v1, ← v2, ← v3, ← v4, ← v5]
            refine awp_seq_k fun K hK => ?_

            (refine awp_reg_seq [0, 1, 4, 9, 10, 13, 15] fun K hK => ?_; (repeat' ((refine al_r rfl fun K' hK' => ?_); (repeat (simp only [go_sem, simprocAttr, List.length_map])); (first | ((refine hK' _ _ ?_) <;> clear hK' K') | ((show AC _ _ (D.fn 17 _) _ _); refine acall_p (f := 17) (e := rfl) (hr := rfl) (k := hK' _ _ ?_) (hc := Try.call17) (h := hpu0); clear hK' K')))); all_goals (refine al_nil ?_; (simp only [go_sem, simprocAttr, List.length_map]); refine hK _ ?_; clear hK K))

            refine awp_reg_tov [4, 10, 131] [(131, bD ((e != 0) || !le))] (h := ?_) (k := ?_)
            · obtain ⟨en, hen⟩ : ∃ en, (e != 0) = en := ⟨_, rfl⟩
              cases en <;> cases le

              all_goals ((repeat' (first | ((first | refine al_r rfl fun K' hK' => ?_ | refine al_t rfl rfl fun K' hK' => ?_); (repeat (simp only [go_sem, simprocAttr, List.length_map, v1, hdn, hn0, hnle, hAp, ha01, ha3, Int.toNat_natCast, hen])); (first | ((first | refine hK' _ _ ?_ | refine ⟨?_, ?_, hK' _ _ ?_⟩) <;> clear hK' K' <;> (first | (show alist _ _ _ _ _ _; skip) | assumption | omega)) | ((show AC _ _ (D.fn 18 _) _ _); refine acall_g (f := 18) (e := rfl) (hr := rfl) (hf := by simp [D.all, D.allL, flatL, flatPV]) (k := hK' _ _ ?_) (hc := Try.call18) (h := heq2); clear hK' K'))) | refine al_e rfl rfl ?_)); all_goals (refine al_nil ?_; (simp only [go_sem, simprocAttr, List.length_map, v1, hdn, hn0, hnle, hAp, ha01, ha3, Int.toNat_natCast, hen, *, Bool.and_true, Bool.and_false, Bool.true_and, Bool.false_and, Bool.or_true, Bool.true_or, Bool.or_false, Bool.false_or, Bool.not_true, Bool.not_false, Bool.false_eq_true]; done)))

            (intro K hK; (simp only [go_sem, simprocAttr, List.length_map, v1]); refine hK _ ?_; clear hK K)
            refine awp_if (_) rfl (fun hc => ?_) (fun hc => ?_)
            · (refine awp_reg_seq [4, 5] fun K hK => ?_; (repeat' ((first | refine al_r rfl fun K' hK' => ?_ | refine al_d rfl fun K' hK' => ?_); (repeat (first | (simp only [go_sem, simprocAttr, List.length_map, v1]) | refine AS.mk ?_)); ((first | refine hK' _ _ ?_ | refine ⟨?_, hK' _ _ ?_⟩) <;> clear hK' K' <;> (first | (show alist _ _ _ _ _ _; skip) | (simp; done))))); all_goals (refine al_nil ?_; (simp only [go_sem, simprocAttr, List.length_map, v1]); refine hK _ ?_; clear hK K))
              rw [if_pos hc] at hR2
              (refine awp_frz [4, 5] [0] (by decide) (by (simp; done)) ?_; simp only [go_sem, simprocAttr, List.length_map, v1])
              refine awp_ret (hR _ _ (.inl rfl) rfl ⟨[0], (.tup [objD R0.1, iD R0.2]), by decide, by simp only [List.length_cons, List.length_nil]; decide, ?_, ?_⟩)
              · rw [hR2]
                simp only [go_sem, simprocAttr, List.length_map, v1, objD, List.map_nil]
                try rfl
              · refine ⟨?_, ?_⟩ <;> simp only [go_sem, simprocAttr, List.length_map, v1, objD]
            · rw [if_neg (by rw [hc]; simp)] at hR2
              refine awp_skip ?_
              refine hK _ ?_; clear hK K
              (refine awp_reg_seq [4, 5] fun K hK => ?_; (repeat' ((first | refine al_r rfl fun K' hK' => ?_ | refine al_d rfl fun K' hK' => ?_); (repeat (first | (simp only [go_sem, simprocAttr, List.length_map, v1]) | refine AS.mk ?_)); ((first | refine hK' _ _ ?_ | refine ⟨?_, hK' _ _ ?_⟩) <;> clear hK' K' <;> (first | (show alist _ _ _ _ _ _; skip) | (simp; done))))); all_goals (refine al_nil ?_; (simp only [go_sem, simprocAttr, List.length_map, v1]); refine hK _ ?_; clear hK K))
              (refine awp_frz [4, 5] [0] (by decide) (by (simp; done)) ?_; simp only [go_sem, simprocAttr, List.length_map, v1])
              refine awp_ret (hR _ _ (.inl rfl) rfl ⟨[0], (.tup [objD R0.1, iD R0.2]), by decide, by simp only [List.length_cons, List.length_nil]; decide, ?_, ?_⟩)
              · rw [hR2]
                simp only [go_sem, simprocAttr, List.length_map, v1, objD, List.map_nil]
                try rfl
              · refine ⟨?_, ?_⟩ <;> simp only [go_sem, simprocAttr, List.length_map, v1, objD]

          ((refine ah_r 0 rfl (by kernel_rfl) rfl fun K' hK' => ?_); (simp only [go_sem, simprocAttr, List.length_map, hdt2, hdt3, hdt, hPl, hPt, hPf, hAp, Nat.zero_add, ha0, ha01, ha3, ha4, Int.toNat_natCast, List.take_nil, List.take_zero, List.nil_append]); ((refine hK' _ ?_); clear hK' K'))
          ((refine ah_r 2 rfl (by kernel_rfl) rfl fun K' hK' => ?_); (simp only [go_sem, simprocAttr, List.length_map, hdt2, hdt3, hdt, hPl, hPt, hPf, hAp, Nat.zero_add, ha0, ha01, ha3, ha4, Int.toNat_natCast, List.take_nil, List.take_zero, List.nil_append]); ((refine hK' _ ?_); clear hK' K'))
          ((refine ah_r 3 rfl (by kernel_rfl) rfl fun K' hK' => ?_); (simp only [go_sem, simprocAttr, List.length_map, hdt2, hdt3, hdt, hPl, hPt, hPf, hAp, Nat.zero_add, ha0, ha01, ha3, ha4, Int.toNat_natCast, List.take_nil, List.take_zero, List.nil_append]); ((refine hK' _ ?_); clear hK' K'))
          ((refine ah_r 4 rfl (by kernel_rfl) rfl fun K' hK' => ?_); (simp only [go_sem, simprocAttr, List.length_map, hdt2, hdt3, hdt, hPl, hPt, hPf, hAp, Nat.zero_add, ha0, ha01, ha3, ha4, Int.toNat_natCast, List.take_nil, List.take_zero, List.nil_append]); ((refine hK' _ ?_); clear hK' K'))
          ((refine ah_r 5 rfl (by kernel_rfl) rfl fun K' hK' => ?_); (simp only [go_sem, simprocAttr, List.length_map, hdt2, hdt3, hdt, hPl, hPt, hPf, hAp, Nat.zero_add, ha0, ha01, ha3, ha4, Int.toNat_natCast, List.take_nil, List.take_zero, List.nil_append]); ((refine hK' _ ?_); clear hK' K'))
          ((refine ah_r 6 rfl (by kernel_rfl) rfl fun K' hK' => ?_); (simp only [go_sem, simprocAttr, List.length_map, hdt2, hdt3, hdt, hPl, hPt, hPf, hAp, Nat.zero_add, ha0, ha01, ha3, ha4, Int.toNat_natCast, List.take_nil, List.take_zero, List.nil_append]); ((refine hK' _ ?_); clear hK' K'))
          refine ah_two 1 7 rfl rfl (by kernel_rfl) ?_ ?_
          · ((repeat' ((refine al_r rfl fun K' hK' => ?_); (repeat (simp only [go_sem, simprocAttr, List.length_map, hdt2, hdt3, hdt, hPl, hPt, hPf, hAp, Nat.zero_add, ha0, ha01, ha3, ha4, Int.toNat_natCast, List.take_nil, List.take_zero, List.nil_append])); ((refine hK' _ _ ?_) <;> clear hK' K'))); all_goals refine al_nil ?_)
            (refine ah_one 7 rfl (by kernel_rfl) ?_; (repeat' ((refine al_r rfl fun K' hK' => ?_); (repeat (simp only [go_sem, simprocAttr, List.length_map, hdt2, hdt3, hdt, hPl, hPt, hPf, hAp, Nat.zero_add, ha0, ha01, ha3, ha4, Int.toNat_natCast, List.take_nil, List.take_zero, List.nil_append])); ((refine ⟨?_, ?_, hK' _ _ ?_⟩) <;> clear hK' K' <;> (first | (show alist _ _ _ _ _ _; skip) | assumption | omega)))); all_goals refine al_nil ?_)
            (refine ah_one 8 rfl (by kernel_rfl) ?_; (repeat' ((refine al_r rfl fun K' hK' => ?_); (repeat (first | (simp only [go_sem, simprocAttr, List.length_map, hdt2, hdt3, hdt, hPl, hPt, hPf, hAp, Nat.zero_add, ha0, ha01, ha3, ha4, Int.toNat_natCast, List.take_nil, List.take_zero, List.nil_append]) | refine AAp.grow ?_)); ((refine ⟨?_, hK' _ _ ?_⟩) <;> clear hK' K' <;> (first | (show alist _ _ _ _ _ _; skip) | assumption)))); all_goals refine al_nil ?_)
            ((refine ah_r 9 rfl (by kernel_rfl) rfl fun K' hK' => ?_); (simp only [go_sem, simprocAttr, List.length_map, hdt2, hdt3, hdt, hPl, hPt, hPf, hAp, Nat.zero_add, ha0, ha01, ha3, ha4, Int.toNat_natCast, List.take_nil, List.take_zero, List.nil_append]); ((refine hK' _ ?_); clear hK' K'))
            (refine ah_one 10 rfl (by kernel_rfl) ?_; (repeat' ((refine al_d rfl fun K' hK' => ?_); (repeat (first | (simp only [go_sem, simprocAttr, List.length_map, hdt2, hdt3, hdt, hPl, hPt, hPf, hAp, Nat.zero_add, ha0, ha01, ha3, ha4, Int.toNat_natCast, List.take_nil, List.take_zero, List.nil_append]) | refine AS.mk ?_)); ((refine ⟨?_, hK' _ _ ?_⟩) <;> clear hK' K' <;> (first | (show alist _ _ _ _ _ _; skip) | (simp; done))))); all_goals refine al_nil ?_)
            (refine ah_done (by kernel_rfl) ?_; (simp only [go_sem, simprocAttr, List.length_map, hdt2, hdt3, hdt, hPl, hPt, hPf, hAp, Nat.zero_add, ha0, ha01, ha3, ha4, Int.toNat_natCast, List.take_nil, List.take_zero, List.nil_append]); exact key)
          · ((repeat' ((refine al_r rfl fun K' hK' => ?_); (repeat (simp only [go_sem, simprocAttr, List.length_map, hdt2, hdt3, hdt, hPl, hPt, hPf, hAp, Nat.zero_add, ha0, ha01, ha3, ha4, Int.toNat_natCast, List.take_nil, List.take_zero, List.nil_append])); ((refine ⟨?_, ?_, hK' _ _ ?_⟩) <;> clear hK' K' <;> (first | (show alist _ _ _ _ _ _; skip) | assumption | omega)))); all_goals refine al_nil ?_)
            (refine ah_one 1 rfl (by kernel_rfl) ?_; (repeat' ((refine al_r rfl fun K' hK' => ?_); (repeat (simp only [go_sem, simprocAttr, List.length_map, hdt2, hdt3, hdt, hPl, hPt, hPf, hAp, Nat.zero_add, ha0, ha01, ha3, ha4, Int.toNat_natCast, List.take_nil, List.take_zero, List.nil_append])); ((refine hK' _ _ ?_) <;> clear hK' K'))); all_goals refine al_nil ?_)
            (refine ah_one 8 rfl (by kernel_rfl) ?_; (repeat' ((refine al_r rfl fun K' hK' => ?_); (repeat (first | (simp only [go_sem, simprocAttr, List.length_map, hdt2, hdt3, hdt, hPl, hPt, hPf, hAp, Nat.zero_add, ha0, ha01, ha3, ha4, Int.toNat_natCast, List.take_nil, List.take_zero, List.nil_append]) | refine AAp.grow ?_)); ((refine ⟨?_, hK' _ _ ?_⟩) <;> clear hK' K' <;> (first | (show alist _ _ _ _ _ _; skip) | assumption)))); all_goals refine al_nil ?_)
            ((refine ah_r 9 rfl (by kernel_rfl) rfl fun K' hK' => ?_); (simp only [go_sem, simprocAttr, List.length_map, hdt2, hdt3, hdt, hPl, hPt, hPf, hAp, Nat.zero_add, ha0, ha01, ha3, ha4, Int.toNat_natCast, List.take_nil, List.take_zero, List.nil_append]); ((refine hK' _ ?_); clear hK' K'))
            (refine ah_one 10 rfl (by kernel_rfl) ?_; (repeat' ((refine al_d rfl fun K' hK' => ?_); (repeat (first | (simp only [go_sem, simprocAttr, List.length_map, hdt2, hdt3, hdt, hPl, hPt, hPf, hAp, Nat.zero_add, ha0, ha01, ha3, ha4, Int.toNat_natCast, List.take_nil, List.take_zero, List.nil_append]) | refine AS.mk ?_)); ((refine ⟨?_, hK' _ _ ?_⟩) <;> clear hK' K' <;> (first | (show alist _ _ _ _ _ _; skip) | (simp; done))))); all_goals refine al_nil ?_)
            (refine ah_done (by kernel_rfl) ?_; (simp only [go_sem, simprocAttr, List.length_map, hdt2, hdt3, hdt, hPl, hPt, hPf, hAp, Nat.zero_add, ha0, ha01, ha3, ha4, Int.toNat_natCast, List.take_nil, List.take_zero, List.nil_append]); exact key)

      (refine awp_reg_tov [0, 1, 4, 8, 9, 10, 65] [(65, bD (k == 1 || k == 4))] (h := ?_) (k := ?_); · ((repeat' (first | ((first | refine al_r rfl fun K' hK' => ?_ | refine al_t rfl rfl fun K' hK' => ?_); (repeat (simp only [go_sem, simprocAttr, List.length_map, hn1])); ((refine hK' _ _ ?_) <;> clear hK' K')) | refine al_e rfl rfl ?_ | ((fail_if_success (refine al_t rfl rfl fun K' hK' => ?_)); refine al_s _ rfl rfl rfl (fun hb => ?_) (fun hb => ?_)))); all_goals (refine al_nil ?_; simp only [go_sem, simprocAttr, List.length_map, hn1, *, Bool.and_true, Bool.and_false, Bool.true_and, Bool.false_and, Bool.or_true, Bool.true_or, Bool.or_false, Bool.false_or, Bool.not_true, Bool.not_false, Bool.false_eq_true]))); intro K hK; (simp only [go_sem, simprocAttr, List.length_map, hn1]); refine hK _ ?_; clear hK K
      refine awp_if (numK k) rfl (fun hc => ?_) (fun hc => ?_)
      · have hrm : roomN k t p = 1 + (t + 7) / 8 + p + 1 := by unfold roomN; rw [if_pos hc]
        obtain ⟨v, hv1⟩ := get_of_lt (l := h) (i := n + 1) (by omega)
        have hvl := lt_of_get hv1
        have hRa : R0 = atO h n (objO h n k (IntKind.i64.wrap v) t p (n + 2)) (n + 2 + (t + 7) / 8 + p - n) := by
          rw [hv]; unfold atR; rw [if_pos hc, show h.getD (n + 1) 0 = v by simp [List.getD, hv1]]
        have hn2 : IntKind.i64.wrap (((n + 1 : Nat) : Int) + 1) = ((n + 2 : Nat) : Int) := by
          simp [maxLen] at hlen
          rw [Go.Ab.wrap_small (by omega) (by omega)]; rfl
        have hn10 : (0 : Int) ≤ ((n + 1 : Nat) : Int) := Int.natCast_nonneg _

        (refine awp_reg_seq [0, 1, 4, 8, 9, 10] fun K hK => ?_; (repeat' ((first | refine al_r rfl fun K' hK' => ?_ | refine al_d rfl fun K' hK' => ?_); (repeat (first | (simp only [go_sem, simprocAttr, List.length_map, hv1, hvl, hn2, hn10, Int.toNat_natCast, List.getElem?_map, Option.map_some]) | refine AS.mk ?_)); ((first | refine hK' _ _ ?_ | refine ⟨?_, hK' _ _ ?_⟩) <;> clear hK' K' <;> (first | (show alist _ _ _ _ _ _; skip) | (simp; done) | omega)))); all_goals (refine al_nil ?_; (simp only [go_sem, simprocAttr, List.length_map, hv1, hvl, hn2, hn10, Int.toNat_natCast, List.getElem?_map, Option.map_some]); refine hK _ ?_; clear hK K))
        (refine awp_reg_end [0, 1, 4, 8, 9, 10] fun K hK => ?_; (repeat' ((refine al_r rfl fun K' hK' => ?_); (repeat (simp only [go_sem, simprocAttr, List.length_map, hv1, hvl, hn2, hn10, Int.toNat_natCast, List.getElem?_map, Option.map_some])); ((refine hK' _ _ ?_) <;> clear hK' K'))); all_goals (refine al_nil ?_; (simp only [go_sem, simprocAttr, List.length_map, hv1, hvl, hn2, hn10, Int.toNat_natCast, List.getElem?_map, Option.map_some]); refine hK _ ?_; clear hK K))
        (refine hcut _ [0, 1, 4, 8, 9, 10] [0, 1, 2] (by decide) (by intro q hq; have : q = 0 := Nat.lt_one_iff.1 hq; subst this; rfl) ?_; simp only [go_sem, simprocAttr, List.length_map, hv1, hvl, hn2, hn10, Int.toNat_natCast, List.getElem?_map, Option.map_some]; (exact key (n + 2) _ (by omega) (by omega) hRa))
      · have hrm : roomN k t p = 1 + (t + 7) / 8 + p := by unfold roomN; rw [if_neg (by rw [hc]; simp)]; rfl
        have hRb : R0 = atO h n (objO h n k 0 t p (n + 1)) (n + 1 + (t + 7) / 8 + p - n) := by
          rw [hv]; unfold atR; rw [if_neg (by rw [hc]; simp)]

        refine awp_skip ?_
        (refine hcut _ [0, 1, 4, 8, 9, 10] [0, 1, 2] (by decide) (by intro q hq; have : q = 0 := Nat.lt_one_iff.1 hq; subst this; rfl) ?_; simp only [go_sem, simprocAttr, List.length_map]; (exact key (n + 1) 0 (by omega) (by omega) hRb))
end Go.Proofs.Ytagphggcdmjlpaa.P

/- The copier's word: what it answers, and three contracts. -/
namespace Go.Proofs.Ytagphggcdmjlpaa.P
open Go.Ab Go.Proofs.Ytagphggcdmjlpaa.T

/-- What a place was moved to. -/
def lk : List (Int × Int) → Int → Option Int
  | [], _ => none
  | (a, b) :: l, n => if a = n then some b else lk l n

/-- Such a list as a map of the program's. -/
def emb (m : List (Int × Int)) : List (Value × PV) := m.map fun e => (.int .i64 e.1, .lit (.int .i64 e.2))

theorem emb_keys (m : List (Int × Int)) : intKeys .i64 (emb m) := fun e he => by
  obtain ⟨x, _, rfl⟩ := List.mem_map.1 he
  exact ⟨x.1, rfl⟩

theorem mget_emb : ∀ (m : List (Int × Int)) (n : Int), mget (emb m) n = (lk m n).map fun t => .lit (.int .i64 t)
  | [], _ => rfl
  | (a, b) :: l, n => by
    show (if a = n then some (PV.lit (.int .i64 b)) else mget (emb l) n) = _
    unfold lk
    rw [mget_emb l n]
    split <;> rfl

theorem mset_emb : ∀ {m : List (Int × Int)} {a : Int} (b : Int), lk m a = none → mset .i64 a (.lit (.int .i64 b)) (emb m) = emb (m ++ [(a, b)])
  | [], _, _, _ => rfl
  | (c, d) :: l, a, b, h => by
    unfold lk at h
    split at h
    · cases h
    · rename_i hc
      show (if c = a then _ else (Value.int .i64 c, PV.lit (.int .i64 d)) :: mset .i64 a (.lit (.int .i64 b)) (emb l)) = _
      rw [if_neg hc, mset_emb b h]
      rfl

/-- What the copier has: the new heap, and what was moved. -/
abbrev CS := List Int × List (Int × Int)

/-- What a word is turned to, and what the copier has then. -/
def wordC (g : List Int) (low : Int) (S : CS) (w : Int) : Int × CS :=
  if !(placeS w).2.1 || decide ((placeS w).1 < low) then (w, S) else
  match lk S.2 (placeS w).1 with
  | some t => ((wordS 4 t).1, S)
  | none => ((wordS 4 S.1.length).1, (putS S.1 (atS g (placeS w).1).1).1, S.2 ++ [((placeS w).1, (S.1.length : Int))])

abbrev copD (g : List Int) (low : Int) (i n : Nat) : Ob := .box [words g, iD low, .ref i 0 n, .mp 2]
/-- The copier's objects, as it was called, and behind a call. -/
abbrev copA (g : List Int) (low : Int) (S : CS) : List Ob := [copD g low 1 S.1.length, .row 1 (S.1.map wrow), .map (emb S.2)]
abbrev copB (g : List Int) (low : Int) (S : CS) : List Ob := [copD g low 3 S.1.length, .dead, .map (emb S.2), .row 1 (S.1.map wrow)]

theorem flat_w (l : List Int) : ∀ o, o ∈ [Ob.row 1 (l.map wrow)] → flatOb o := fun o ho => by
  rcases List.mem_singleton.1 ho with rfl
  intro x hx y hy
  obtain ⟨n, _, rfl⟩ := List.mem_map.1 hx
  rcases List.mem_singleton.1 hy with rfl
  trivial


theorem wordSame (g : List Int) (low w at_ : Int) (Is : Bool) (e : Int) (S : CS) (hpl : ACallP Try.prog 68 [wD w] (.tup [iD at_, bD Is, iD e])) (hc0 : (!Is || decide (at_ < low)) = true) :
    ACalls Try.prog 98 [.ptr 0 0 0, wD w] (copA g low S) (fun r obs' => r = wD w ∧ obs' = copB g low S) := by
  obtain ⟨X, hX⟩ : ∃ X, decide (at_ < low) = X := ⟨_, rfl⟩
  rw [hX] at hc0
  refine acallm_fn [4] Try.func98 rfl rfl Try.ntmps98 (by simp) (by simp) fun R hR => ?_
  (refine awp_reg_seq [0, 1] fun K hK => ?_; (repeat' ((refine al_r rfl fun K' hK' => ?_); (repeat (simp only [go_sem, simprocAttr])); ((refine hK' _ _ ?_) <;> clear hK' K'))); all_goals (refine al_nil ?_; (simp only [go_sem, simprocAttr]); refine hK _ ?_; clear hK K))
  (refine awp_mv [0, 1] [0, 9, 2, 1] (by decide) (kept3 rfl (by simp)) ?_; simp only [go_sem, simprocAttr])
  (refine awp_reg_seq [0, 1, 5, 6] fun K hK => ?_; (repeat' ((refine al_r rfl fun K' hK' => ?_); (repeat (simp only [go_sem, simprocAttr])); (first | ((refine hK' _ _ ?_) <;> clear hK' K') | ((show AC _ _ (D.fn 68 _) _ _); refine acall_p (f := 68) (e := rfl) (hr := rfl) (k := hK' _ _ ?_) (hc := Try.call68) (h := hpl); clear hK' K')))); all_goals (refine al_nil ?_; (simp only [go_sem, simprocAttr]); refine hK _ ?_; clear hK K))
  refine awp_seq_k fun K hK => ?_

  refine awp_reg_tov [0, 1, 5, 29] [(29, bD (!Is || X))] (h := ?_) (k := ?_)
  · cases Is <;> cases X
    all_goals ((repeat' (first | ((first | refine al_r rfl fun K' hK' => ?_ | refine al_t rfl rfl fun K' hK' => ?_); (repeat (simp only [go_sem, simprocAttr, hX])); ((refine hK' _ _ ?_) <;> clear hK' K')) | refine al_e rfl rfl ?_)); all_goals (refine al_nil ?_; (simp only [go_sem, simprocAttr, hX, *, Bool.and_true, Bool.and_false, Bool.true_and, Bool.false_and, Bool.or_true, Bool.true_or, Bool.or_false, Bool.false_or, Bool.not_true, Bool.not_false, Bool.false_eq_true]; done)))
  (intro K hK; (simp only [go_sem, simprocAttr, hX]); refine hK _ ?_; clear hK K)
  refine awp_if (!Is || X) rfl (fun hc => ?_) (fun hc => ?_)
  · (refine awp_reg_seq [4] fun K hK => ?_; (repeat' ((refine al_r rfl fun K' hK' => ?_); (repeat (simp only [go_sem, simprocAttr, hX])); ((refine hK' _ _ ?_) <;> clear hK' K'))); all_goals (refine al_nil ?_; (simp only [go_sem, simprocAttr, hX]); refine hK _ ?_; clear hK K))
    refine awp_ret (hR _ _ [0, 1, 2, 3] (.inl rfl) rfl (by decide) (by simp only [List.length_cons, List.length_nil]; decide) ?_)
    refine ⟨?_, ?_⟩ <;> simp only [go_sem, simprocAttr, hX]
  · rw [hc0] at hc
    cases hc


theorem wordOld (g : List Int) (low w at_ t : Int) (e : Int) (S : CS) (hpl : ACallP Try.prog 68 [wD w] (.tup [iD at_, bD true, iD e])) (hX : decide (at_ < low) = false) (hlk : lk S.2 at_ = some t) :
    ACalls Try.prog 98 [.ptr 0 0 0, wD w] (copA g low S) (fun r obs' => r = wD (wordS 4 t).1 ∧ obs' = copB g low S) := by
  have hwo := word 4 t
  have hmg := mget_emb S.2 at_
  rw [hlk] at hmg
  have hkeys := emb_keys S.2
  refine acallm_fn [4] Try.func98 rfl rfl Try.ntmps98 (by simp) (by simp) fun R hR => ?_
  (refine awp_reg_seq [0, 1] fun K hK => ?_; (repeat' ((refine al_r rfl fun K' hK' => ?_); (repeat (simp only [go_sem, simprocAttr])); ((refine hK' _ _ ?_) <;> clear hK' K'))); all_goals (refine al_nil ?_; (simp only [go_sem, simprocAttr]); refine hK _ ?_; clear hK K))
  (refine awp_mv [0, 1] [0, 9, 2, 1] (by decide) (kept3 rfl (by simp)) ?_; simp only [go_sem, simprocAttr])
  (refine awp_reg_seq [0, 1, 5, 6] fun K hK => ?_; (repeat' ((refine al_r rfl fun K' hK' => ?_); (repeat (simp only [go_sem, simprocAttr])); (first | ((refine hK' _ _ ?_) <;> clear hK' K') | ((show AC _ _ (D.fn 68 _) _ _); refine acall_p (f := 68) (e := rfl) (hr := rfl) (k := hK' _ _ ?_) (hc := Try.call68) (h := hpl); clear hK' K')))); all_goals (refine al_nil ?_; (simp only [go_sem, simprocAttr]); refine hK _ ?_; clear hK K))
  refine awp_seq_k fun K hK => ?_

  refine awp_reg_tov [0, 1, 5, 29] [(29, bD false)] (h := ?_) (k := ?_)
  · all_goals ((repeat' ((first | refine al_r rfl fun K' hK' => ?_ | refine al_t rfl rfl fun K' hK' => ?_); (repeat (simp only [go_sem, simprocAttr, hX])); ((refine hK' _ _ ?_) <;> clear hK' K'))); all_goals (refine al_nil ?_; (simp only [go_sem, simprocAttr, hX, *, Bool.and_true, Bool.and_false, Bool.true_and, Bool.false_and, Bool.or_true, Bool.true_or, Bool.or_false, Bool.false_or, Bool.not_true, Bool.not_false, Bool.false_eq_true]; done)))
  (intro K hK; (simp only [go_sem, simprocAttr, hX]); refine hK _ ?_; clear hK K)
  refine awp_if (_) rfl (fun hc => ?_) (fun hc => ?_)
  · cases hc
  · refine awp_skip ?_
    refine hK _ ?_; clear hK K

    (refine awp_reg_seq [0, 5, 8, 9] fun K hK => ?_; (repeat' ((refine al_r rfl fun K' hK' => ?_); (repeat (simp only [go_sem, simprocAttr, hkeys, hmg, Option.map_some])); ((refine hK' _ _ ?_) <;> clear hK' K'))); all_goals (refine al_nil ?_; (simp only [go_sem, simprocAttr, hkeys, hmg, Option.map_some]); refine hK _ ?_; clear hK K))
    refine awp_seq_k fun K hK => ?_
    (refine awp_reg_seq [0, 5, 8, 41] fun K hK => ?_; (repeat' ((refine al_r rfl fun K' hK' => ?_); (repeat (simp only [go_sem, simprocAttr, hkeys, hmg, Option.map_some])); ((refine hK' _ _ ?_) <;> clear hK' K'))); all_goals (refine al_nil ?_; (simp only [go_sem, simprocAttr, hkeys, hmg, Option.map_some]); refine hK _ ?_; clear hK K))
    refine awp_if (_) rfl (fun hc => ?_) (fun hc => ?_)
    · cases hc
    · refine awp_skip ?_
      refine hK _ ?_; clear hK K
      (refine awp_reg_seq [12] fun K hK => ?_; (repeat' ((refine al_r rfl fun K' hK' => ?_); (repeat (simp only [go_sem, simprocAttr, hkeys, hmg, Option.map_some])); (first | ((refine hK' _ _ ?_) <;> clear hK' K') | ((show AC _ _ (D.fn 57 _) _ _); refine acall_p (f := 57) (e := rfl) (hr := rfl) (k := hK' _ _ ?_) (hc := Try.call57) (h := hwo); clear hK' K')))); all_goals (refine al_nil ?_; (simp only [go_sem, simprocAttr, hkeys, hmg, Option.map_some]); refine hK _ ?_; clear hK K))
      (refine awp_reg_seq [4] fun K hK => ?_; (repeat' ((refine al_r rfl fun K' hK' => ?_); (repeat (simp only [go_sem, simprocAttr, hkeys, hmg, Option.map_some])); ((refine hK' _ _ ?_) <;> clear hK' K'))); all_goals (refine al_nil ?_; (simp only [go_sem, simprocAttr, hkeys, hmg, Option.map_some]); refine hK _ ?_; clear hK K))
      refine awp_ret (hR _ _ [0, 1, 2, 3] (.inl rfl) rfl (by decide) (by simp only [List.length_cons, List.length_nil]; decide) ?_)
      refine ⟨?_, ?_⟩ <;> simp only [go_sem, simprocAttr, hkeys, hmg, Option.map_some]


set_option maxRecDepth 100000 in
theorem wordNew (g : List Int) (low w at_ : Int) (e e2 : Int) (S : CS) (o : Obj) (hpl : ACallP Try.prog 68 [wD w] (.tup [iD at_, bD true, iD e])) (hX : decide (at_ < low) = false) (hlk : lk S.2 at_ = none)
    (hat : ACallP Try.prog 19 [words g, iD at_] (.tup [objD o, iD e2])) (hlen : S.1.length ≤ maxLen) (hg : (putS S.1 o).2.2 = 0) :
    ACalls Try.prog 98 [.ptr 0 0 0, wD w] (copA g low S) (fun r obs' => r = wD (wordS 4 S.1.length).1 ∧ obs' = copB g low ((putS S.1 o).1, S.2 ++ [(at_, (S.1.length : Int))])) := by
  have hwo := word 4 S.1.length
  have hmg := mget_emb S.2 at_
  rw [hlk] at hmg
  have hkeys := emb_keys S.2
  have hms := mset_emb (S.1.length : Int) hlk
  have htS : List.take S.1.length (S.1.map wrow) = S.1.map wrow := List.take_of_length_le (by simp)
  have hpu := putO S.1 o hlen hg
  unfold words at hpu
  rw [← htS] at hpu
  generalize putS S.1 o = X at hpu
  have hpuF := flat_w X.1
  refine acallm_fn [4] Try.func98 rfl rfl Try.ntmps98 (by simp) (by simp) fun R hR => ?_
  (refine awp_reg_seq [0, 1] fun K hK => ?_; (repeat' ((refine al_r rfl fun K' hK' => ?_); (repeat (simp only [go_sem, simprocAttr])); ((refine hK' _ _ ?_) <;> clear hK' K'))); all_goals (refine al_nil ?_; (simp only [go_sem, simprocAttr]); refine hK _ ?_; clear hK K))
  (refine awp_mv [0, 1] [0, 9, 2, 1] (by decide) (kept3 rfl (by simp)) ?_; simp only [go_sem, simprocAttr])
  (refine awp_reg_seq [0, 1, 5, 6] fun K hK => ?_; (repeat' ((refine al_r rfl fun K' hK' => ?_); (repeat (simp only [go_sem, simprocAttr])); (first | ((refine hK' _ _ ?_) <;> clear hK' K') | ((show AC _ _ (D.fn 68 _) _ _); refine acall_p (f := 68) (e := rfl) (hr := rfl) (k := hK' _ _ ?_) (hc := Try.call68) (h := hpl); clear hK' K')))); all_goals (refine al_nil ?_; (simp only [go_sem, simprocAttr]); refine hK _ ?_; clear hK K))
  refine awp_seq_k fun K hK => ?_

  refine awp_reg_tov [0, 1, 5, 29] [(29, bD false)] (h := ?_) (k := ?_)
  · all_goals ((repeat' ((first | refine al_r rfl fun K' hK' => ?_ | refine al_t rfl rfl fun K' hK' => ?_); (repeat (simp only [go_sem, simprocAttr, hX])); ((refine hK' _ _ ?_) <;> clear hK' K'))); all_goals (refine al_nil ?_; (simp only [go_sem, simprocAttr, hX, *, Bool.and_true, Bool.and_false, Bool.true_and, Bool.false_and, Bool.or_true, Bool.true_or, Bool.or_false, Bool.false_or, Bool.not_true, Bool.not_false, Bool.false_eq_true]; done)))
  (intro K hK; (simp only [go_sem, simprocAttr, hX]); refine hK _ ?_; clear hK K)
  refine awp_if (_) rfl (fun hc => ?_) (fun hc => ?_)
  · cases hc
  · refine awp_skip ?_
    refine hK _ ?_; clear hK K

    (refine awp_reg_seq [0, 5, 8, 9] fun K hK => ?_; (repeat' ((refine al_r rfl fun K' hK' => ?_); (repeat (simp only [go_sem, simprocAttr, hkeys, hmg, Option.map_none])); ((refine hK' _ _ ?_) <;> clear hK' K'))); all_goals (refine al_nil ?_; (simp only [go_sem, simprocAttr, hkeys, hmg, Option.map_none]); refine hK _ ?_; clear hK K))
    refine awp_seq_k fun K hK => ?_
    (refine awp_reg_seq [0, 5, 8, 41] fun K hK => ?_; (repeat' ((refine al_r rfl fun K' hK' => ?_); (repeat (simp only [go_sem, simprocAttr, hkeys, hmg, Option.map_none])); ((refine hK' _ _ ?_) <;> clear hK' K'))); all_goals (refine al_nil ?_; (simp only [go_sem, simprocAttr, hkeys, hmg, Option.map_none]); refine hK _ ?_; clear hK K))
    refine awp_if (_) rfl (fun hc => ?_) (fun hc => ?_)

    · (refine awp_reg_seq [0, 5, 10] fun K hK => ?_; (repeat' ((first | refine al_r rfl fun K' hK' => ?_ | refine al_d rfl fun K' hK' => ?_); (repeat (first | (simp only [go_sem, simprocAttr, List.length_map]) | refine AS.mk ?_)); (first | ((first | refine hK' _ _ ?_ | refine ⟨?_, hK' _ _ ?_⟩) <;> clear hK' K' <;> (first | (show alist _ _ _ _ _ _; skip) | (simp; done))) | ((show AC _ _ (D.fn 19 _) _ _); refine acall_p (f := 19) (e := rfl) (hr := rfl) (k := hK' _ _ ?_) (hc := Try.call19) (h := hat); clear hK' K')))); all_goals (refine al_nil ?_; (simp only [go_sem, simprocAttr, List.length_map]); refine hK _ ?_; clear hK K))
      (refine awp_reg_seq [0, 5, 8, 10] fun K hK => ?_; (repeat' ((refine al_r rfl fun K' hK' => ?_); (repeat (simp only [go_sem, simprocAttr, List.length_map])); ((first | refine hK' _ _ ?_ | refine ⟨?_, hK' _ _ ?_⟩) <;> clear hK' K' <;> (first | (show alist _ _ _ _ _ _; skip) | (intro s hs; cases hs; done))))); all_goals (refine al_nil ?_; (simp only [go_sem, simprocAttr, List.length_map]); refine hK _ ?_; clear hK K))

      (refine awp_reg_seq [0, 8, 10] fun K hK => ?_; (repeat' ((first | refine al_r rfl fun K' hK' => ?_ | refine al_d rfl fun K' hK' => ?_); (repeat (simp only [go_sem, simprocAttr, List.length_map, hkeys, hms])); ((refine hK' _ _ ?_) <;> clear hK' K'))); all_goals (refine al_nil ?_; (simp only [go_sem, simprocAttr, List.length_map, hkeys, hms]); refine hK _ ?_; clear hK K))
      (refine awp_frz [0, 8, 10] [0, 1, 2, 3] (by decide) (by (exact kept012)) ?_; simp only [go_sem, simprocAttr, List.length_map, hkeys, hms])
      refine awp_draw (by kernel_rfl) [8] fun K hK => ?_
      ((refine ah_r 0 rfl (by kernel_rfl) rfl fun K' hK' => ?_); (simp only [go_sem, simprocAttr, List.length_map, hkeys, hms]); ((refine hK' _ ?_); clear hK' K'))
      ((refine ah_r 1 rfl (by kernel_rfl) rfl fun K' hK' => ?_); (simp only [go_sem, simprocAttr, List.length_map, hkeys, hms]); ((refine hK' _ ?_); clear hK' K'))
      ((refine ah_r 5 rfl (by kernel_rfl) rfl fun K' hK' => ?_); (simp only [go_sem, simprocAttr, List.length_map, hkeys, hms]); ((refine hK' _ ?_); clear hK' K'))
      (refine ah_one 2 rfl (by kernel_rfl) ?_; (repeat' ((refine al_r rfl fun K' hK' => ?_); (repeat (simp only [go_sem, simprocAttr, List.length_map, hkeys, hms])); ((refine hK' _ _ ?_) <;> clear hK' K'))); all_goals refine al_nil ?_)
      ((refine ah_r 3 rfl (by kernel_rfl) rfl fun K' hK' => ?_); (simp only [go_sem, simprocAttr, List.length_map, hkeys, hms]); ((refine hK' _ ?_); clear hK' K'))
      (refine ah_one 4 rfl (by kernel_rfl) ?_; (repeat' ((refine al_r rfl fun K' hK' => ?_); (repeat (simp only [go_sem, simprocAttr, List.length_map, hkeys, hms])); ((refine hK' _ _ ?_) <;> clear hK' K'))); all_goals refine al_nil ?_)
      (refine ah_one 6 rfl (by kernel_rfl) ?_; (repeat' ((refine al_r rfl fun K' hK' => ?_); (repeat (simp only [go_sem, simprocAttr, List.length_map, hkeys, hms])); ((show AC _ _ (D.fn 17 _) _ _); refine acall_gn (f := 17) Try.call17 hpu rfl (by simp [D.all, D.allL, flatL, flatPV]) (hfo := hpuF) ?_; (simp only [go_sem, simprocAttr, List.length_map, hkeys, hms]); refine hK' _ _ ?_; clear hK' K'))); all_goals refine al_nil ?_)
      ((refine ah_r 7 rfl (by kernel_rfl) rfl fun K' hK' => ?_); (simp only [go_sem, simprocAttr, List.length_map, hkeys, hms]); ((refine hK' _ ?_); clear hK' K'))
      ((refine ah_r 8 rfl (by kernel_rfl) rfl fun K' hK' => ?_); (simp only [go_sem, simprocAttr, List.length_map, hkeys, hms]); ((refine hK' _ ?_); clear hK' K'))
      ((refine ah_r 9 rfl (by kernel_rfl) rfl fun K' hK' => ?_); (simp only [go_sem, simprocAttr, List.length_map, hkeys, hms]); ((refine hK' _ ?_); clear hK' K'))
      ((refine ah_r 10 rfl (by kernel_rfl) rfl fun K' hK' => ?_); (simp only [go_sem, simprocAttr, List.length_map, hkeys, hms]); ((refine hK' _ ?_); clear hK' K'))
      (refine ah_one 11 rfl (by kernel_rfl) ?_; (repeat' ((refine al_r rfl fun K' hK' => ?_); (repeat (simp only [go_sem, simprocAttr, List.length_map, hkeys, hms])); ((refine hK' _ _ ?_) <;> clear hK' K'))); all_goals refine al_nil ?_)
      ((refine ah_r 12 rfl (by kernel_rfl) rfl fun K' hK' => ?_); (simp only [go_sem, simprocAttr, List.length_map, hkeys, hms]); ((refine hK' _ ?_); clear hK' K'))
      (refine ah_one 13 rfl (by kernel_rfl) ?_; (repeat' ((refine al_d rfl fun K' hK' => ?_); (repeat (first | (simp only [go_sem, simprocAttr, List.length_map, hkeys, hms]) | refine AS.mk ?_)); ((refine ⟨?_, hK' _ _ ?_⟩) <;> clear hK' K' <;> (first | (show alist _ _ _ _ _ _; skip) | (simp; done))))); all_goals refine al_nil ?_)
      (refine ah_done (by kernel_rfl) ?_; (simp only [go_sem, simprocAttr, List.length_map, hkeys, hms]); refine hK _ ?_; clear hK K)
      refine hK _ ?_; clear hK K
      (refine awp_reg_seq [12] fun K hK => ?_; (repeat' ((refine al_r rfl fun K' hK' => ?_); (repeat (simp only [go_sem, simprocAttr, List.length_map, hkeys, hms])); (first | ((refine hK' _ _ ?_) <;> clear hK' K') | ((show AC _ _ (D.fn 57 _) _ _); refine acall_p (f := 57) (e := rfl) (hr := rfl) (k := hK' _ _ ?_) (hc := Try.call57) (h := hwo); clear hK' K')))); all_goals (refine al_nil ?_; (simp only [go_sem, simprocAttr, List.length_map, hkeys, hms]); refine hK _ ?_; clear hK K))
      (refine awp_reg_seq [4] fun K hK => ?_; (repeat' ((refine al_r rfl fun K' hK' => ?_); (repeat (simp only [go_sem, simprocAttr, List.length_map, hkeys, hms])); ((refine hK' _ _ ?_) <;> clear hK' K'))); all_goals (refine al_nil ?_; (simp only [go_sem, simprocAttr, List.length_map, hkeys, hms]); refine hK _ ?_; clear hK K))
      refine awp_ret (hR _ _ [0, 1, 2, 4] (.inl rfl) rfl (by decide) (by simp only [List.length_cons, List.length_nil]; decide) ?_)
      refine ⟨?_, ?_⟩ <;> simp only [go_sem, simprocAttr, List.length_map, hkeys, hms, List.length_map]
    · cases hc
end Go.Proofs.Ytagphggcdmjlpaa.P

/- The copier's parts: a contract. -/
namespace Go.Proofs.Ytagphggcdmjlpaa.P
open Go.Ab Go.Proofs.Ytagphggcdmjlpaa.T

/-- May a word be turned? -/
def wordOK (g : List Int) (low : Int) (S : CS) (w : Int) : Prop := (!(placeS w).2.1 || decide ((placeS w).1 < low)) = false → lk S.2 (placeS w).1 = none → (putS S.1 (atS g (placeS w).1).1).2.2 = 0

theorem wordC_same {g : List Int} {low w : Int} {S : CS} (h : (!(placeS w).2.1 || decide ((placeS w).1 < low)) = true) : wordC g low S w = (w, S) := by
  unfold wordC; rw [if_pos h]
theorem wordC_old {g : List Int} {low w t : Int} {S : CS} (h : (!(placeS w).2.1 || decide ((placeS w).1 < low)) = false) (hl : lk S.2 (placeS w).1 = some t) : wordC g low S w = ((wordS 4 t).1, S) := by
  unfold wordC; rw [if_neg (by rw [h]; exact Bool.false_ne_true), hl]
theorem wordC_new {g : List Int} {low w : Int} {S : CS} (h : (!(placeS w).2.1 || decide ((placeS w).1 < low)) = false) (hl : lk S.2 (placeS w).1 = none) : wordC g low S w = ((wordS 4 S.1.length).1, (putS S.1 (atS g (placeS w).1).1).1, S.2 ++ [((placeS w).1, (S.1.length : Int))]) := by
  unfold wordC; rw [if_neg (by rw [h]; exact Bool.false_ne_true), hl]

theorem copFin {g : List Int} {low w z : Int} {S T : CS} (W : Int × CS) (e : W = (z, T)) (h : ACalls Try.prog 98 [.ptr 0 0 0, wD w] (copA g low S) (fun r obs' => r = wD z ∧ obs' = copB g low T)) :
    ACalls Try.prog 98 [.ptr 0 0 0, wD w] (copA g low S) (fun r obs' => r = wD W.1 ∧ obs' = copB g low W.2) := by
  subst e; exact h

theorem wordCc (g : List Int) (low w : Int) (S : CS) (hg : g.length ≤ maxLen) (hok : ∀ w, w ∈ g → WordOk w) (hS : S.1.length ≤ maxLen) (h : wordOK g low S w) :
    ACalls Try.prog 98 [.ptr 0 0 0, wD w] (copA g low S) (fun r obs' => r = wD (wordC g low S w).1 ∧ obs' = copB g low (wordC g low S w).2) := by
  have hpl := placeW w
  cases hc : !(placeS w).2.1 || decide ((placeS w).1 < low) with
  | true =>
    exact copFin _ (wordC_same hc) (wordSame g low w _ _ _ S hpl hc)
  | false =>
    have hIs : (placeS w).2.1 = true := by
      cases hI : (placeS w).2.1
      · rw [hI] at hc; exact absurd hc (by rw [Bool.not_false, Bool.true_or]; decide)
      · rfl
    have hX : decide ((placeS w).1 < low) = false := by rw [hIs, Bool.not_true, Bool.false_or] at hc; exact hc
    rw [hIs] at hpl
    cases hlk : lk S.2 (placeS w).1 with
    | some t =>
      have e := wordC_old (g := g) hc hlk
      have h3 := wordOld g low w _ t _ S hpl hX hlk
      exact copFin _ e h3
    | none =>
      have e := wordC_new (g := g) hc hlk
      have hat := at_ g (placeS w).1 hg hok
      have hpu := h hc hlk
      generalize atS g (placeS w).1 = A at hat hpu e
      have h3 := wordNew g low w _ _ A.2 S A.1 hpl hX hlk hat hS hpu
      exact copFin _ e h3

/-- Parts are turned, one behind the other. -/
def partF (g : List Int) (low : Int) : CS → Nat → List Int → CS
  | S, _, [] => S
  | S, k, w :: l => partF g low ((wordC g low S w).2.1.set k (wordC g low S w).1, (wordC g low S w).2.2) (k + 1) l

def partOK (g : List Int) (low : Int) : CS → Nat → List Int → Prop
  | S, _, [] => S.1.length ≤ 4000
  | S, k, w :: l => wordOK g low S w ∧ S.1.length ≤ 4000 ∧ k < (wordC g low S w).2.1.length ∧ (wordC g low S w).2.1.length ≤ 4000 ∧ partOK g low ((wordC g low S w).2.1.set k (wordC g low S w).1, (wordC g low S w).2.2) (k + 1) l


set_option maxRecDepth 100000 in
theorem partsCc (g : List Int) (low : Int) (a first : Nat) (S : CS) (o : Obj) (e : Int) (hg : g.length ≤ maxLen) (hok : ∀ w, w ∈ g → WordOk w) (hokS : ∀ w, w ∈ S.1 → WordOk w)
    (hS : S.1.length ≤ 4000) (hao : atS S.1 a = (o, e)) (hn : a + (putS [] o).1.length = first + o.parts.length) (hfl : first + o.parts.length ≤ 4000) (hp : partOK g low S first o.parts) :
    ACalls Try.prog 97 [.ptr 0 0 0, iD a] (copA g low S) (fun r obs' => r = iD ((a + (putS [] o).1.length : Nat) : Int) ∧ obs' = copB g low (partF g low S first o.parts)) := by
  have hat := atO_ S.1 a (by simp [maxLen]; omega) hokS
  rw [hao] at hat
  have hpu0 : ACallP Try.prog 17 [.nil, objD o] _ := ACallP.soft (put [] o (by simp)) rfl
  generalize putS [] o = X at hpu0 hn
  obtain ⟨x, y, e2⟩ := X
  simp only at hpu0 hn hat ⊢
  obtain ⟨R0, hR0⟩ : ∃ R0, R0 = partF g low S first o.parts := ⟨_, rfl⟩
  rw [← hR0]
  have h1 : IntKind.i64.wrap ((a : Int) + (x.length : Int)) = ((a + x.length : Nat) : Int) := by rw [Go.Ab.wrap_small (by omega) (by omega)]; rfl
  have h2 : IntKind.i64.wrap (((a + x.length : Nat) : Int) - (o.parts.length : Int)) = (first : Int) := by rw [Go.Ab.wrap_small (by omega) (by omega)]; omega
  refine acallm_fn [4] Try.func97 rfl rfl Try.ntmps97 (by simp) (by simp) fun R hR => ?_
  (refine awp_reg_seq [0, 1] fun K hK => ?_; (repeat' ((refine al_r rfl fun K' hK' => ?_); (repeat (simp only [go_sem, simprocAttr, List.length_map])); ((refine hK' _ _ ?_) <;> clear hK' K'))); all_goals (refine al_nil ?_; (simp only [go_sem, simprocAttr, List.length_map]); refine hK _ ?_; clear hK K))
  (refine awp_mv [0, 1] [0, 9, 2, 1] (by decide) (kept3 rfl (by simp)) ?_; simp only [go_sem, simprocAttr, List.length_map])
  (refine awp_reg_seq [0, 1, 5] fun K hK => ?_; (repeat' ((first | refine al_r rfl fun K' hK' => ?_ | refine al_d rfl fun K' hK' => ?_); (repeat (first | (simp only [go_sem, simprocAttr, List.length_map]) | refine AS.mk ?_)); (first | ((first | refine hK' _ _ ?_ | refine ⟨?_, hK' _ _ ?_⟩) <;> clear hK' K' <;> (first | (show alist _ _ _ _ _ _; skip) | (simp; done))) | ((show AC _ _ (D.fn 19 _) _ _); refine acall_m (f := 19) [3] Try.call19 hat rfl rfl (by decide) (by simp) ?_; rintro r obs' ⟨rfl, rfl⟩; refine ⟨by simp, ?_⟩; (simp only [go_sem, simprocAttr, List.length_map]); refine hK' _ _ ?_; clear hK' K')))); all_goals (refine al_nil ?_; (simp only [go_sem, simprocAttr, List.length_map]); refine hK _ ?_; clear hK K))
  (refine awp_frz [0, 1, 5] [0, 1, 2, 3] (by decide) (by (exact kept012)) ?_; simp only [go_sem, simprocAttr, List.length_map])
  (refine awp_reg_seq [0, 1, 5, 7] fun K hK => ?_; (repeat' ((refine al_r rfl fun K' hK' => ?_); (repeat (simp only [go_sem, simprocAttr, List.length_map])); (first | ((refine hK' _ _ ?_) <;> clear hK' K') | ((show AC _ _ (D.fn 17 _) _ _); refine acall_p (f := 17) (e := rfl) (hr := rfl) (k := hK' _ _ ?_) (hc := Try.call17) (h := hpu0); clear hK' K')))); all_goals (refine al_nil ?_; (simp only [go_sem, simprocAttr, List.length_map]); refine hK _ ?_; clear hK K))

  (refine awp_reg_seq [0, 1, 5, 7, 10] fun K hK => ?_; (repeat' ((refine al_r rfl fun K' hK' => ?_); (repeat (simp only [go_sem, simprocAttr, List.length_map, h1, h2])); ((first | refine hK' _ _ ?_ | refine ⟨?_, hK' _ _ ?_⟩) <;> clear hK' K' <;> (first | (show alist _ _ _ _ _ _; skip) | (intro s hs; cases hs; done))))); all_goals (refine al_nil ?_; (simp only [go_sem, simprocAttr, List.length_map, h1, h2]); refine hK _ ?_; clear hK K))
  refine awp_seq_k fun K hK => ?_
  (refine awp_reg_seq [0, 1, 7, 10, 38, 39, 40] fun K hK => ?_; (repeat' ((refine al_r rfl fun K' hK' => ?_); (repeat (simp only [go_sem, simprocAttr, List.length_map, h1, h2])); ((first | refine hK' _ _ ?_ | refine ⟨?_, hK' _ _ ?_⟩) <;> clear hK' K' <;> (first | (show alist _ _ _ _ _ _; skip) | (intro s hs; cases hs; done))))); all_goals (refine al_nil ?_; (simp only [go_sem, simprocAttr, List.length_map, h1, h2]); refine hK _ ?_; clear hK K))
  refine awp_block ?_
  -- loop 0 head [0, 1, 7, 10, 38, 39, 40]
  refine awp_loop_cut (fun m s => ∃ (i : Nat) (V : CS), i ≤ o.parts.length ∧ m = o.parts.length - i ∧ partOK g low V (first + i) (o.parts.drop i) ∧ R0 = partF g low V (first + i) (o.parts.drop i) ∧ s = ⟨ofL [(0, .ptr 0 0 0), (1, iD a), (7, words x), (10, iD first), (38, words o.parts), (39, iD o.parts.length), (40, iD i)], copB g low V, 3⟩) ⟨_, 0, S, Nat.zero_le _, rfl, hp, hR0, rfl⟩ ?_
  clear hp hR0 hat hpu0
  rintro m s ⟨i, V, hi, hmi, hp, hR0, rfl⟩
  (refine awp_reg_seq [0, 1, 7, 10, 38, 39, 40, 41] fun K hK => ?_; (repeat' ((refine al_r rfl fun K' hK' => ?_); (repeat (simp only [go_sem, simprocAttr, List.length_map, h1, h2])); ((refine hK' _ _ ?_) <;> clear hK' K'))); all_goals (refine al_nil ?_; (simp only [go_sem, simprocAttr, List.length_map, h1, h2]); refine hK _ ?_; clear hK K))
  refine awp_seq_k fun K hK => ?_
  refine awp_if (decide ((i : Int) < (o.parts.length : Int))) rfl (fun hc => ?_) (fun hc => ?_)
  · refine awp_skip ?_
    refine hK _ ?_; clear hK K
    refine awp_seq_k fun K hK => ?_
    refine awp_block ?_
    have hi2 : i < o.parts.length := by simpa using hc
    obtain ⟨w, hget⟩ := get_of_lt hi2
    rw [drop_of hget] at hp hR0
    obtain ⟨p1, p2, p3, p4, p5⟩ := hp
    have hR2 : R0 = partF g low ((wordC g low V w).2.1.set (first + i) (wordC g low V w).1, (wordC g low V w).2.2) (first + i + 1) (o.parts.drop (i + 1)) := hR0
    clear hR0
    have hwc := wordCc g low w V hg hok (by simp [maxLen]; omega) p1
    clear p1
    generalize wordC g low V w = W at hwc p3 p4 p5 hR2
    obtain ⟨v, T, mv⟩ := W
    simp only at hwc p3 p4 p5 hR2
    have hnn : (0 : Int) ≤ (i : Int) := Int.natCast_nonneg i
    have hnx : IntKind.i64.wrap ((i : Int) + 1) = ((i + 1 : Nat) : Int) := by rw [Go.Ab.wrap_small (by omega) (by omega)]; rfl
    have hfx : IntKind.i64.wrap ((first : Int) + (i : Int)) = ((first + i : Nat) : Int) := by rw [Go.Ab.wrap_small (by omega) (by omega)]; rfl
    have hf0 : (0 : Int) ≤ ((first + i : Nat) : Int) := Int.natCast_nonneg _
    have hf1 : ((first + i : Nat) : Int) < (T.length : Int) := by omega
    obtain ⟨x0, hx0⟩ := get_of_lt p3
    have hset : (T.map wrow).set (first + i) (wrow v) = (T.set (first + i) v).map wrow := by rw [List.map_set]

    (refine awp_reg_seq [0, 1, 7, 10, 11, 12, 38, 39, 40] fun K hK => ?_; (repeat' ((refine al_r rfl fun K' hK' => ?_); (repeat (simp only [go_sem, simprocAttr, hget, hx0, hnn, hi2, hnx, hfx, hf0, hf1, hset, Int.toNat_natCast, List.getElem?_map, Option.map_some, List.length_map])); ((refine hK' _ _ ?_) <;> clear hK' K'))); all_goals (refine al_nil ?_; (simp only [go_sem, simprocAttr, hget, hx0, hnn, hi2, hnx, hfx, hf0, hf1, hset, Int.toNat_natCast, List.getElem?_map, Option.map_some, List.length_map]); refine hK _ ?_; clear hK K))
    (refine awp_reg_seq [0, 1, 7, 10, 11, 13, 38, 39, 40] fun K hK => ?_; (repeat' ((refine al_r rfl fun K' hK' => ?_); (repeat (simp only [go_sem, simprocAttr, hget, hx0, hnn, hi2, hnx, hfx, hf0, hf1, hset, Int.toNat_natCast, List.getElem?_map, Option.map_some, List.length_map])); (first | ((refine hK' _ _ ?_) <;> clear hK' K') | ((show AC _ _ (D.fn 98 _) _ _); refine acall_m (f := 98) [0, 3, 2] Try.call98 hwc rfl rfl (by decide) (by simp) ?_; rintro r obs' ⟨rfl, rfl⟩; refine ⟨by simp, ?_⟩; (simp only [go_sem, simprocAttr, hget, hx0, hnn, hi2, hnx, hfx, hf0, hf1, hset, Int.toNat_natCast, List.getElem?_map, Option.map_some, List.length_map]); refine hK' _ _ ?_; clear hK' K')))); all_goals (refine al_nil ?_; (simp only [go_sem, simprocAttr, hget, hx0, hnn, hi2, hnx, hfx, hf0, hf1, hset, Int.toNat_natCast, List.getElem?_map, Option.map_some, List.length_map]); refine hK _ ?_; clear hK K))
    (refine awp_reg_end [0, 1, 7, 10, 38, 39, 40] fun K hK => ?_; (repeat' ((first | refine al_r rfl fun K' hK' => ?_ | refine al_d rfl fun K' hK' => ?_); (repeat (first | (simp only [go_sem, simprocAttr, hget, hx0, hnn, hi2, hnx, hfx, hf0, hf1, hset, Int.toNat_natCast, List.getElem?_map, Option.map_some, List.length_map]) | refine AS.mk ?_)); ((first | refine hK' _ _ ?_ | refine ⟨?_, hK' _ _ ?_⟩) <;> clear hK' K' <;> (first | (show alist _ _ _ _ _ _; skip) | (simp; done))))); all_goals (refine al_nil ?_; (simp only [go_sem, simprocAttr, hget, hx0, hnn, hi2, hnx, hfx, hf0, hf1, hset, Int.toNat_natCast, List.getElem?_map, Option.map_some, List.length_map]); refine hK _ ?_; clear hK K))
    refine hK _ ?_; clear hK K
    (refine awp_reg_end [0, 1, 7, 10, 38, 39, 40] fun K hK => ?_; (repeat' ((refine al_r rfl fun K' hK' => ?_); (repeat (simp only [go_sem, simprocAttr, hget, hx0, hnn, hi2, hnx, hfx, hf0, hf1, hset, Int.toNat_natCast, List.getElem?_map, Option.map_some, List.length_map])); ((refine hK' _ _ ?_) <;> clear hK' K'))); all_goals (refine al_nil ?_; (simp only [go_sem, simprocAttr, hget, hx0, hnn, hi2, hnx, hfx, hf0, hf1, hset, Int.toNat_natCast, List.getElem?_map, Option.map_some, List.length_map]); refine hK _ ?_; clear hK K))
    refine ⟨o.parts.length - (i + 1), by omega, [0, 1, 7, 10, 38, 39, 40], [0, 1, 2, 4], by decide, kept012, i + 1, (T.set (first + i) v, mv), hi2, rfl, p5, hR2, ?_⟩
    simp only [go_sem, simprocAttr, hget, hx0, hnn, hi2, hnx, hfx, hf0, hf1, hset, Int.toNat_natCast, List.getElem?_map, Option.map_some, List.length_map, copB, copD, List.length_set]

  · have hie : i = o.parts.length := by simp at hc; omega
    subst hie
    rw [List.drop_length] at hR0
    have hR2 : R0 = V := hR0
    refine awp_exit ?_
    clear hK
    refine hK _ ?_; clear hK K
    (refine awp_reg_seq [4] fun K hK => ?_; (repeat' ((refine al_r rfl fun K' hK' => ?_); (repeat (simp only [go_sem, simprocAttr, List.length_map, h1])); ((first | refine hK' _ _ ?_ | refine ⟨?_, hK' _ _ ?_⟩) <;> clear hK' K' <;> (first | (show alist _ _ _ _ _ _; skip) | (intro s hs; cases hs; done))))); all_goals (refine al_nil ?_; (simp only [go_sem, simprocAttr, List.length_map, h1]); refine hK _ ?_; clear hK K))
    refine awp_ret (hR _ _ [0, 1, 2, 3] (.inl rfl) rfl (by decide) (by simp only [List.length_cons, List.length_nil]; decide) ?_)
    rw [hR2]
    refine ⟨?_, ?_⟩ <;> simp only [go_sem, simprocAttr, List.length_map, h1, copB, copD]
end Go.Proofs.Ytagphggcdmjlpaa.P

/- The copier's run: a contract. -/
namespace Go.Proofs.Ytagphggcdmjlpaa.P
open Go.Ab Go.Proofs.Ytagphggcdmjlpaa.T

/-- The object at a place of the new heap is turned; the place behind it. -/
def partsC (g : List Int) (low : Int) (S : CS) (a : Nat) : Nat × CS :=
  (a + (putS [] (atS S.1 a).1).1.length, partF g low S (a + (putS [] (atS S.1 a).1).1.length - (atS S.1 a).1.parts.length) (atS S.1 a).1.parts)

def partsOK (g : List Int) (low : Int) (S : CS) (a : Nat) : Prop :=
  (∀ w, w ∈ S.1 → WordOk w) ∧ S.1.length ≤ 4000 ∧ (atS S.1 a).1.parts.length ≤ a + (putS [] (atS S.1 a).1).1.length ∧ a + (putS [] (atS S.1 a).1).1.length ≤ 4000 ∧
    partOK g low S (a + (putS [] (atS S.1 a).1).1.length - (atS S.1 a).1.parts.length) (atS S.1 a).1.parts

theorem copFin2 {g : List Int} {low : Int} {a z : Nat} {S T : CS} (W : Nat × CS) (e : W = (z, T)) (h : ACalls Try.prog 97 [.ptr 0 0 0, iD a] (copA g low S) (fun r obs' => r = iD (z : Int) ∧ obs' = copB g low T)) :
    ACalls Try.prog 97 [.ptr 0 0 0, iD a] (copA g low S) (fun r obs' => r = iD (W.1 : Int) ∧ obs' = copB g low W.2) := by
  subst e; exact h

theorem partsCs (g : List Int) (low : Int) (S : CS) (a : Nat) (hg : g.length ≤ maxLen) (hok : ∀ w, w ∈ g → WordOk w) (h : partsOK g low S a) :
    ACalls Try.prog 97 [.ptr 0 0 0, iD a] (copA g low S) (fun r obs' => r = iD ((partsC g low S a).1 : Int) ∧ obs' = copB g low (partsC g low S a).2) := by
  obtain ⟨h1, h2, h3, h4, h5⟩ := h
  refine copFin2 _ (z := a + (putS [] (atS S.1 a).1).1.length) (T := partF g low S (a + (putS [] (atS S.1 a).1).1.length - (atS S.1 a).1.parts.length) (atS S.1 a).1.parts) rfl ?_
  exact partsCc g low a _ S (atS S.1 a).1 (atS S.1 a).2 hg hok h1 h2 rfl (by omega) (by omega) h5

/-- The late ones, the roots, and what is not yet turned. -/
def lateC (g : List Int) (low : Int) : CS → List Int → CS
  | S, [] => S
  | S, t :: l => lateC g low (partsC g low S t.toNat).2 l
def lateOK (g : List Int) (low : Int) : CS → List Int → Prop
  | S, [] => S.1.length ≤ 4000
  | S, t :: l => 0 ≤ t ∧ partsOK g low S t.toNat ∧ lateOK g low (partsC g low S t.toNat).2 l
def rootsC (g : List Int) (low : Int) : CS → List Int → List Int × CS
  | S, [] => ([], S)
  | S, w :: l => ((wordC g low S w).1 :: (rootsC g low (wordC g low S w).2 l).1, (rootsC g low (wordC g low S w).2 l).2)
def rootsOK (g : List Int) (low : Int) : CS → List Int → Prop
  | S, [] => S.1.length ≤ 4000
  | S, w :: l => S.1.length ≤ 4000 ∧ wordOK g low S w ∧ rootsOK g low (wordC g low S w).2 l
def scanC (g : List Int) (low : Int) : Nat → CS → Nat → CS
  | 0, S, _ => S
  | f + 1, S, a => if a < S.1.length then scanC g low f (partsC g low S a).2 (partsC g low S a).1 else S
def scanOK (g : List Int) (low : Int) : Nat → CS → Nat → Prop
  | 0, S, a => S.1.length ≤ a
  | f + 1, S, a => a < S.1.length → partsOK g low S a ∧ scanOK g low f (partsC g low S a).2 (partsC g low S a).1

theorem late_nil {g : List Int} {low : Int} {S : CS} : lateC g low S [] = S := rfl
theorem late_cons {g : List Int} {low t : Int} {S : CS} {l : List Int} : lateC g low S (t :: l) = lateC g low (partsC g low S t.toNat).2 l := rfl


set_option maxRecDepth 100000 in
theorem runCc (g : List Int) (low : Int) (S : CS) (late ws : List Int) (f : Nat) (hg : g.length ≤ maxLen) (hok : ∀ w, w ∈ g → WordOk w) (hS : S.1.length ≤ 4000) (hlate : late.length ≤ maxLen) (hws : ws.length ≤ 100000)
    (h1 : lateOK g low S late) (h2 : rootsOK g low (lateC g low S late) ws) (h3 : scanOK g low f (rootsC g low (lateC g low S late) ws).2 S.1.length) :
    ACalls Try.prog 73 [.ptr 0 0 0, ints late, words ws] (copA g low S) (fun r obs' => r = .ref 4 0 ws.length ∧
      obs' = copB g low (scanC g low f (rootsC g low (lateC g low S late) ws).2 S.1.length) ++ [.row 1 ((rootsC g low (lateC g low S late) ws).1.map wrow)]) := by
  obtain ⟨A, hA⟩ : ∃ A, A = lateC g low S late := ⟨_, rfl⟩
  rw [← hA] at h2 h3 ⊢
  obtain ⟨B, hB⟩ : ∃ B, B = rootsC g low A ws := ⟨_, rfl⟩
  rw [← hB] at h3 ⊢
  obtain ⟨C, hC⟩ : ∃ C, C = scanC g low f B.2 S.1.length := ⟨_, rfl⟩
  rw [← hC]
  refine acallm_fn [6] Try.func73 rfl rfl Try.ntmps73 (by simp) (by simp) fun R hR => ?_
  (refine awp_reg_seq [0, 1, 2] fun K hK => ?_; (repeat' ((refine al_r rfl fun K' hK' => ?_); (repeat (simp only [go_sem, simprocAttr, List.length_map])); ((refine hK' _ _ ?_) <;> clear hK' K'))); all_goals (refine al_nil ?_; (simp only [go_sem, simprocAttr, List.length_map]); refine hK _ ?_; clear hK K))
  (refine awp_mv [0, 1, 2] [0, 9, 2, 1] (by decide) (kept3 rfl (by simp)) ?_; simp only [go_sem, simprocAttr, List.length_map])
  (refine awp_reg_seq [0, 1, 2, 7] fun K hK => ?_; (repeat' ((refine al_r rfl fun K' hK' => ?_); (repeat (simp only [go_sem, simprocAttr, List.length_map])); ((first | refine hK' _ _ ?_ | refine ⟨?_, hK' _ _ ?_⟩) <;> clear hK' K' <;> (first | (show alist _ _ _ _ _ _; skip) | (intro s hs; cases hs; done))))); all_goals (refine al_nil ?_; (simp only [go_sem, simprocAttr, List.length_map]); refine hK _ ?_; clear hK K))
  refine awp_seq_k fun K hK => ?_
  (refine awp_reg_seq [0, 2, 7, 18, 19, 20] fun K hK => ?_; (repeat' ((refine al_r rfl fun K' hK' => ?_); (repeat (simp only [go_sem, simprocAttr, List.length_map])); ((first | refine hK' _ _ ?_ | refine ⟨?_, hK' _ _ ?_⟩) <;> clear hK' K' <;> (first | (show alist _ _ _ _ _ _; skip) | (intro s hs; cases hs; done))))); all_goals (refine al_nil ?_; (simp only [go_sem, simprocAttr, List.length_map]); refine hK _ ?_; clear hK K))
  refine awp_block ?_
  -- loop 0 head [0, 2, 7, 18, 19, 20]
  refine awp_loop_cut (fun m s => ∃ (i : Nat) (V : CS), i ≤ late.length ∧ m = late.length - i ∧ lateOK g low V (late.drop i) ∧ A = lateC g low V (late.drop i) ∧ s = ⟨ofL [(0, .ptr 0 0 0), (2, words ws), (7, iD S.1.length), (18, ints late), (19, iD late.length), (20, iD i)], copB g low V, 3⟩) ⟨_, 0, S, Nat.zero_le _, rfl, h1, hA, rfl⟩ ?_
  clear h1 hA
  rintro m s ⟨i, V, hi, hmi, h1, hA, rfl⟩
  (refine awp_reg_seq [0, 2, 7, 18, 19, 20, 21] fun K hK => ?_; (repeat' ((refine al_r rfl fun K' hK' => ?_); (repeat (simp only [go_sem, simprocAttr, List.length_map])); ((refine hK' _ _ ?_) <;> clear hK' K'))); all_goals (refine al_nil ?_; (simp only [go_sem, simprocAttr, List.length_map]); refine hK _ ?_; clear hK K))
  refine awp_seq_k fun K hK => ?_
  refine awp_if (decide ((i : Int) < (late.length : Int))) rfl (fun hc => ?_) (fun hc => ?_)
  · refine awp_skip ?_
    refine hK _ ?_; clear hK K
    refine awp_seq_k fun K hK => ?_
    refine awp_block ?_
    have hi2 : i < late.length := by simpa using hc
    obtain ⟨t, hget⟩ := get_of_lt hi2
    rw [drop_of hget] at h1 hA
    obtain ⟨p0, p1, p2⟩ := h1
    rw [late_cons] at hA
    obtain ⟨n, rfl⟩ := Int.eq_ofNat_of_zero_le p0
    rw [Int.toNat_natCast] at p1 p2 hA
    have hpc := partsCs g low V n hg hok p1
    generalize partsC g low V n = W at hpc p2 hA
    obtain ⟨z, T⟩ := W
    simp only at hpc p2 hA
    have hnn : (0 : Int) ≤ (i : Int) := Int.natCast_nonneg i
    have hnx : IntKind.i64.wrap ((i : Int) + 1) = ((i + 1 : Nat) : Int) := wrap_next hi2 hlate

    (refine awp_reg_seq [0, 2, 7, 9, 18, 19, 20] fun K hK => ?_; (repeat' ((refine al_r rfl fun K' hK' => ?_); (repeat (simp only [go_sem, simprocAttr, hget, hnn, hi2, hnx, Int.toNat_natCast, List.getElem?_map, Option.map_some, List.length_map])); ((refine hK' _ _ ?_) <;> clear hK' K'))); all_goals (refine al_nil ?_; (simp only [go_sem, simprocAttr, hget, hnn, hi2, hnx, Int.toNat_natCast, List.getElem?_map, Option.map_some, List.length_map]); refine hK _ ?_; clear hK K))
    (refine awp_reg_end [0, 2, 7, 18, 19, 20] fun K hK => ?_; (repeat' ((refine al_r rfl fun K' hK' => ?_); (repeat (simp only [go_sem, simprocAttr, hget, hnn, hi2, hnx, Int.toNat_natCast, List.getElem?_map, Option.map_some, List.length_map])); (first | ((refine hK' _ _ ?_) <;> clear hK' K') | ((show AC _ _ (D.fn 97 _) _ _); refine acall_m (f := 97) [0, 3, 2] Try.call97 hpc rfl rfl (by decide) (by simp) ?_; rintro r obs' ⟨rfl, rfl⟩; refine ⟨by simp, ?_⟩; (simp only [go_sem, simprocAttr, hget, hnn, hi2, hnx, Int.toNat_natCast, List.getElem?_map, Option.map_some, List.length_map]); refine hK' _ _ ?_; clear hK' K')))); all_goals (refine al_nil ?_; (simp only [go_sem, simprocAttr, hget, hnn, hi2, hnx, Int.toNat_natCast, List.getElem?_map, Option.map_some, List.length_map]); refine hK _ ?_; clear hK K))
    refine hK _ ?_; clear hK K
    (refine awp_reg_end [0, 2, 7, 18, 19, 20] fun K hK => ?_; (repeat' ((refine al_r rfl fun K' hK' => ?_); (repeat (simp only [go_sem, simprocAttr, hget, hnn, hi2, hnx, Int.toNat_natCast, List.getElem?_map, Option.map_some, List.length_map])); ((refine hK' _ _ ?_) <;> clear hK' K'))); all_goals (refine al_nil ?_; (simp only [go_sem, simprocAttr, hget, hnn, hi2, hnx, Int.toNat_natCast, List.getElem?_map, Option.map_some, List.length_map]); refine hK _ ?_; clear hK K))
    refine ⟨late.length - (i + 1), by omega, [0, 2, 7, 18, 19, 20], [0, 1, 2, 4], by decide, kept012, i + 1, T, hi2, rfl, p2, hA, ?_⟩
    simp only [go_sem, simprocAttr, hget, hnn, hi2, hnx, Int.toNat_natCast, List.getElem?_map, Option.map_some, List.length_map, copB, copD]

  · have hie : i = late.length := by simp at hc; omega
    subst hie
    rw [List.drop_length] at hA h1
    rw [late_nil] at hA
    subst hA
    clear h1
    refine awp_exit ?_
    clear hK
    refine hK _ ?_; clear hK K
    (refine awp_reg_seq [0, 2, 7, 10] fun K hK => ?_; (repeat' ((refine al_r rfl fun K' hK' => ?_); (repeat (simp only [go_sem, simprocAttr, List.length_map])); ((refine hK' _ _ ?_) <;> clear hK' K'))); all_goals (refine al_nil ?_; (simp only [go_sem, simprocAttr, List.length_map]); refine hK _ ?_; clear hK K))
    refine awp_born 10 1 rfl ?_
    refine awp_seq_k fun K hK => ?_
    (refine awp_reg_seq [0, 7, 10, 28, 29, 30] fun K hK => ?_; (repeat' ((refine al_r rfl fun K' hK' => ?_); (repeat (simp only [go_sem, simprocAttr, List.length_map])); ((first | refine hK' _ _ ?_ | refine ⟨?_, hK' _ _ ?_⟩) <;> clear hK' K' <;> (first | (show alist _ _ _ _ _ _; skip) | (intro s hs; cases hs; done))))); all_goals (refine al_nil ?_; (simp only [go_sem, simprocAttr, List.length_map]); refine hK _ ?_; clear hK K))
    refine awp_block ?_
    -- loop 1 head [0, 7, 10, 28, 29, 30]
    refine awp_loop_cut (fun m s => ∃ (i : Nat) (V : CS) (out : List Int), i ≤ ws.length ∧ m = ws.length - i ∧ out.length = i ∧ rootsOK g low V (ws.drop i) ∧ B = (out ++ (rootsC g low V (ws.drop i)).1, (rootsC g low V (ws.drop i)).2) ∧ s = ⟨ofL [(0, .ptr 0 0 0), (7, iD S.1.length), (10, .ref 4 0 out.length), (28, words ws), (29, iD ws.length), (30, iD i)], copB g low V ++ [.row 1 (out.map wrow)], 3⟩) ⟨_, 0, A, [], Nat.zero_le _, rfl, rfl, h2, hB, rfl⟩ ?_
    clear h2 hB
    rintro m s ⟨i, V, out, hi, hmi, hol, h2, hB, rfl⟩
    (refine awp_reg_seq [0, 7, 10, 28, 29, 30, 31] fun K hK => ?_; (repeat' ((refine al_r rfl fun K' hK' => ?_); (repeat (simp only [go_sem, simprocAttr, List.length_map])); ((refine hK' _ _ ?_) <;> clear hK' K'))); all_goals (refine al_nil ?_; (simp only [go_sem, simprocAttr, List.length_map]); refine hK _ ?_; clear hK K))
    refine awp_seq_k fun K hK => ?_
    refine awp_if (decide ((i : Int) < (ws.length : Int))) rfl (fun hc => ?_) (fun hc => ?_)
    · refine awp_skip ?_
      refine hK _ ?_; clear hK K
      refine awp_seq_k fun K hK => ?_
      refine awp_block ?_
      have hi2 : i < ws.length := by simpa using hc
      obtain ⟨w, hget⟩ := get_of_lt hi2
      rw [drop_of hget] at h2 hB
      obtain ⟨q1, q2, q3⟩ := h2
      have hwc := wordCc g low w V hg hok (by simp [maxLen]; omega) q2
      have hB2 : B = (out ++ ((wordC g low V w).1 :: (rootsC g low (wordC g low V w).2 (ws.drop (i + 1))).1), (rootsC g low (wordC g low V w).2 (ws.drop (i + 1))).2) := hB
      clear hB q2
      generalize wordC g low V w = W at hwc q3 hB2
      obtain ⟨v, T⟩ := W
      simp only at hwc q3 hB2
      have hnn : (0 : Int) ≤ (i : Int) := Int.natCast_nonneg i
      have hnx : IntKind.i64.wrap ((i : Int) + 1) = ((i + 1 : Nat) : Int) := by rw [Go.Ab.wrap_small (by omega) (by omega)]; rfl
      have htB : List.take out.length (out.map wrow) = out.map wrow := List.take_of_length_le (by simp)
      have hfB : (out.length + 1) * 8 ≤ 140737488355328 := by omega

      (refine awp_reg_seq [0, 7, 10, 12, 28, 29, 30] fun K hK => ?_; (repeat' ((refine al_r rfl fun K' hK' => ?_); (repeat (simp only [go_sem, simprocAttr, hget, hnn, hi2, hnx, htB, hfB, Int.toNat_natCast, List.getElem?_map, Option.map_some, List.length_map, List.drop_zero])); ((refine hK' _ _ ?_) <;> clear hK' K'))); all_goals (refine al_nil ?_; (simp only [go_sem, simprocAttr, hget, hnn, hi2, hnx, htB, hfB, Int.toNat_natCast, List.getElem?_map, Option.map_some, List.length_map, List.drop_zero]); refine hK _ ?_; clear hK K))
      (refine awp_reg_end [0, 7, 10, 28, 29, 30] fun K hK => ?_; (repeat' ((refine al_r rfl fun K' hK' => ?_); (repeat (first | (simp only [go_sem, simprocAttr, hget, hnn, hi2, hnx, htB, hfB, Int.toNat_natCast, List.getElem?_map, Option.map_some, List.length_map, List.drop_zero]) | refine AAp.grow ?_)); (first | ((first | refine hK' _ _ ?_ | refine ⟨?_, ?_, hK' _ _ ?_⟩) <;> clear hK' K' <;> (first | (show alist _ _ _ _ _ _; skip) | (simp; done))) | ((show AC _ _ (D.fn 98 _) _ _); refine acall_m (f := 98) [0, 3, 2] Try.call98 hwc rfl rfl (by decide) (by simp) ?_; rintro r obs' ⟨rfl, rfl⟩; refine ⟨by simp, ?_⟩; (simp only [go_sem, simprocAttr, hget, hnn, hi2, hnx, htB, hfB, Int.toNat_natCast, List.getElem?_map, Option.map_some, List.length_map, List.drop_zero]); refine hK' _ _ ?_; clear hK' K')))); all_goals (refine al_nil ?_; (simp only [go_sem, simprocAttr, hget, hnn, hi2, hnx, htB, hfB, Int.toNat_natCast, List.getElem?_map, Option.map_some, List.length_map, List.drop_zero]); refine hK _ ?_; clear hK K))
      refine hK _ ?_; clear hK K
      (refine awp_reg_end [0, 7, 10, 28, 29, 30] fun K hK => ?_; (repeat' ((refine al_r rfl fun K' hK' => ?_); (repeat (simp only [go_sem, simprocAttr, hget, hnn, hi2, hnx, htB, hfB, Int.toNat_natCast, List.getElem?_map, Option.map_some, List.length_map, List.drop_zero])); ((refine hK' _ _ ?_) <;> clear hK' K'))); all_goals (refine al_nil ?_; (simp only [go_sem, simprocAttr, hget, hnn, hi2, hnx, htB, hfB, Int.toNat_natCast, List.getElem?_map, Option.map_some, List.length_map, List.drop_zero]); refine hK _ ?_; clear hK K))
      refine ⟨ws.length - (i + 1), by omega, [0, 7, 10, 28, 29, 30], [0, 1, 2, 5, 7], by decide, kept012, i + 1, T, out ++ [v], hi2, rfl, by simp [hol], q3, by rw [hB2]; simp, ?_⟩
      simp only [go_sem, simprocAttr, hget, hnn, hi2, hnx, htB, hfB, Int.toNat_natCast, List.getElem?_map, Option.map_some, List.length_map, List.drop_zero, copB, copD, List.map_append, List.length_append]

    · have hie : i = ws.length := by simp at hc; omega
      subst hie
      rw [List.drop_length] at hB
      have hB2 : B = (out, V) := by rw [hB]; simp [rootsC]
      rw [hB2] at h3 hC
      simp only at h3 hC
      refine awp_exit ?_
      clear hK
      refine hK _ ?_; clear hK K
      refine awp_seq_k fun K hK => ?_
      refine awp_block ?_
      -- loop 2 head [0, 7, 10]
      (refine awp_frz [0, 7, 10] [0, 1, 2, 3, 4] (by decide) (by (exact kept012)) ?_; simp only [go_sem, simprocAttr, List.length_map])
      refine awp_loop_cut (fun m s => ∃ (V : CS) (a : Nat), scanOK g low m V a ∧ C = scanC g low m V a ∧ s = ⟨ofL [(0, .ptr 0 0 0), (7, iD a), (10, .ref 4 0 out.length)], copB g low V ++ [.row 1 (out.map wrow)], 3⟩) ⟨f, V, _, h3, hC, rfl⟩ ?_
      clear h3 hC hB h2
      rintro m s ⟨V, a, h3, hC, rfl⟩
      refine awp_seq_k fun K hK => ?_
      (refine awp_reg_seq [0, 7, 10, 47] fun K hK => ?_; (repeat' ((refine al_r rfl fun K' hK' => ?_); (repeat (simp only [go_sem, simprocAttr, List.length_map])); ((first | refine hK' _ _ ?_ | refine ⟨?_, hK' _ _ ?_⟩) <;> clear hK' K' <;> (first | (show alist _ _ _ _ _ _; skip) | (intro s hs; cases hs; done))))); all_goals (refine al_nil ?_; (simp only [go_sem, simprocAttr, List.length_map]); refine hK _ ?_; clear hK K))
      refine awp_if (decide ((a : Int) < (V.1.length : Int))) rfl (fun hc => ?_) (fun hc => ?_)
      · have ha2 : a < V.1.length := by simpa using hc
        obtain ⟨k, rfl⟩ : ∃ k, m = k + 1 := by
          cases m with
          | zero => exact absurd (show V.1.length ≤ a from h3) (by omega)
          | succ k => exact ⟨k, rfl⟩
        have h4 : partsOK g low V a ∧ scanOK g low k (partsC g low V a).2 (partsC g low V a).1 := h3 ha2
        have hC2 : C = scanC g low k (partsC g low V a).2 (partsC g low V a).1 := by rw [hC, scanC, if_pos ha2]
        obtain ⟨p1, p2⟩ := h4
        have hpc := partsCs g low V a hg hok p1
        clear p1 h3 hC
        generalize partsC g low V a = W at hpc p2 hC2
        obtain ⟨z, T⟩ := W
        simp only at hpc p2 hC2

        refine awp_skip ?_
        refine hK _ ?_; clear hK K
        refine awp_block ?_
        (refine awp_reg_end [0, 7, 10] fun K hK => ?_; (repeat' ((refine al_r rfl fun K' hK' => ?_); (repeat (simp only [go_sem, simprocAttr, List.length_map])); (first | ((refine hK' _ _ ?_) <;> clear hK' K') | ((show AC _ _ (D.fn 97 _) _ _); refine acall_m (f := 97) [0, 3, 2] Try.call97 hpc rfl rfl (by decide) (by simp) ?_; rintro r obs' ⟨rfl, rfl⟩; refine ⟨by simp, ?_⟩; (simp only [go_sem, simprocAttr, List.length_map]); refine hK' _ _ ?_; clear hK' K')))); all_goals (refine al_nil ?_; (simp only [go_sem, simprocAttr, List.length_map]); refine hK _ ?_; clear hK K))
        refine ⟨k, by omega, [0, 7, 10], [0, 1, 2, 5, 4], by decide, kept012, T, z, p2, hC2, ?_⟩
        simp only [go_sem, simprocAttr, List.length_map, copB, copD]

      · have hC3 : C = V := by
          have ha2 : ¬ a < V.1.length := by simpa using hc
          cases m with
          | zero => exact hC
          | succ k => rw [hC, scanC, if_neg ha2]
        refine awp_exit ?_
        clear hK
        refine hK _ ?_; clear hK K
        (refine awp_reg_seq [6] fun K hK => ?_; (repeat' ((refine al_r rfl fun K' hK' => ?_); (repeat (simp only [go_sem, simprocAttr, List.length_map])); ((refine hK' _ _ ?_) <;> clear hK' K'))); all_goals (refine al_nil ?_; (simp only [go_sem, simprocAttr, List.length_map]); refine hK _ ?_; clear hK K))
        refine awp_ret (hR _ _ [0, 1, 2, 3, 4] (.inl rfl) rfl (by decide) (by simp only [List.length_cons, List.length_nil]; decide) ?_)
        rw [hC3, hB2]
        refine ⟨?_, ?_⟩
        · simp only [go_sem, simprocAttr, List.length_map, hol]
        · simp only [go_sem, simprocAttr, List.length_map, copB, copD]
end Go.Proofs.Ytagphggcdmjlpaa.P

/- Major and Minor: contracts. -/
namespace Go.Proofs.Ytagphggcdmjlpaa.P
open Go.Ab Go.Proofs.Ytagphggcdmjlpaa.T

theorem roots_len (g : List Int) (low : Int) : ∀ (ws : List Int) (S : CS), (rootsC g low S ws).1.length = ws.length
  | [], _ => rfl
  | w :: l, S => by rw [rootsC, List.length_cons, roots_len g low l, List.length_cons]


end Go.Proofs.Ytagphggcdmjlpaa.P

/- The text store's check and find: contracts. -/
namespace Go.Proofs.Ytagphggcdmjlpaa.B
open Go.Ab Go.Proofs.Ytagphggcdmjlpaa.T

/-- The place of the first. -/
def firstI {α : Type} (p : α → Bool) (l : List α) : Int := match l.findIdx? p with | some i => i | none => -1

theorem firstI_at {α : Type} {p : α → Bool} {l : List α} {i : Nat} {x : α} (h : ∀ j, j < i → ∀ y, l[j]? = some y → p y = false) (hx : l[i]? = some x) (hp : p x = true) : firstI p l = i := by
  unfold firstI
  have : l.findIdx? p = some i := by
    rw [List.findIdx?_eq_some_iff_getElem]
    have hlt : i < l.length := by
      rcases Nat.lt_or_ge i l.length with h' | h'
      · exact h'
      · simp [List.getElem?_eq_none h'] at hx
    refine ⟨hlt, ?_, fun j hj => ?_⟩
    · rw [List.getElem?_eq_getElem hlt] at hx; cases hx; exact hp
    · have := h j hj l[j] (List.getElem?_eq_getElem (by omega))
      simp [this]
  rw [this]

theorem firstI_none {α : Type} {p : α → Bool} {l : List α} (h : ∀ (j : Nat) (y : α), l[j]? = some y → p y = false) : firstI p l = -1 := by
  unfold firstI
  have : l.findIdx? p = none := by
    rw [List.findIdx?_eq_none_iff]
    intro x hx
    obtain ⟨j, hj⟩ := List.getElem?_of_mem hx
    exact h j x hj
  rw [this]



structure Blob where
  text : ByteArray
  many : Int

def Blob.row (b : Blob) : List PV := [.lit (.string b.text), .lit (.int .i64 b.many)]
abbrev blobs (ls : List Blob) : D := .p (.sl (ls.map Blob.row))
abbrev blobD (b : Blob) : D := .agg [.p (.lit (.string b.text)), iD b.many]
abbrev sD (s : ByteArray) : D := .p (.lit (.string s))

theorem wrap_succ {i n : Nat} (h : i < n) (hn : n ≤ maxLen) : IntKind.i64.wrap ((i : Int) + 1) = ((i + 1 : Nat) : Int) := by
  simp only [IntKind.wrap, IntKind.bits, IntKind.signed]
  simp [maxLen] at hn
  simp
  omega

theorem find1 (b : Blob) (text : ByteArray) : ACallO Try.prog 99 [blobD b, .ptr 0 0 0] [.box [sD text]] (bD (decide (b.many > 0) && (b.text.toList == text.toList))) := by
  refine acallo_fn [3] [0] Try.func99 rfl rfl Try.ntmps99 (by simp) (by simp) (by simp) (by simp) fun R hR => ?_
  (refine awp_reg_seq [1, 2, 3] fun K hK => ?_; (repeat' ((refine al_r rfl fun K' hK' => ?_); (repeat (simp only [go_sem, simprocAttr])); ((refine hK' _ _ ?_) <;> clear hK' K'))); all_goals (refine al_nil ?_; (simp only [go_sem, simprocAttr]); refine hK _ ?_; clear hK K))
  (refine awp_reg_seq [3] fun K hK => ?_; (repeat' (first | ((first | refine al_r rfl fun K' hK' => ?_ | refine al_t rfl rfl fun K' hK' => ?_); (repeat (simp only [go_sem, simprocAttr])); ((refine hK' _ _ ?_) <;> clear hK' K')) | refine al_e rfl rfl ?_ | ((fail_if_success (refine al_t rfl rfl fun K' hK' => ?_)); refine al_s _ rfl rfl rfl (fun hb => ?_) (fun hb => ?_)))); all_goals (refine al_nil ?_; (simp only [go_sem, simprocAttr]); refine hK _ ?_; clear hK K))
  all_goals refine awp_ret ?_; (refine hR _ _ (.inl rfl) rfl ?_ ?_)
  all_goals (simp only [go_sem, simprocAttr, *, Bool.and_true, Bool.and_false, Bool.true_and, Bool.false_and, Bool.or_true, Bool.true_or, Bool.or_false, Bool.false_or, Bool.not_true, Bool.not_false, Bool.false_eq_true])


theorem indexBlob (ls : List Blob) (hlen : ls.length ≤ maxLen) (f : FuncId) (caps : List D) (p : Blob → Bool) (obs : List Ob) (ids : List Nat) (hub : ∀ o, o ∈ obs → o ≠ .unborn) (hd : ids.Nodup) (hp : ∀ k, k < obs.length → ids[k]? = some k)
    (hcap : caps.map (D.map (ren1 ids)) = caps) (hob : newObs obs ids = obs) (hm : merge obs ids obs = obs) (hlt : ∀ i, i ∈ ids → i < obs.length) (hl : ids.length ≤ obs.length)
    (hcf : ∀ args w, (callFunc f args).run Try.prog w = .ok (.enter f args) w) (h : ∀ n, n ∈ ls → ACallO Try.prog f (blobD n :: caps) obs (bD (p n))) :
    ACallO Try.prog 76 [blobs ls, .fn f caps] obs (iD (firstI p ls)) := by
  refine acallo_fn [4] ids Try.func76 rfl rfl Try.ntmps76 (by simp) hub hd hp fun R hR => ?_
  (refine awp_reg_seq [0, 1] fun K hK => ?_; (repeat' ((refine al_r rfl fun K' hK' => ?_); (repeat (simp only [go_sem, simprocAttr, List.length_map])); ((refine hK' _ _ ?_) <;> clear hK' K'))); all_goals (refine al_nil ?_; (simp only [go_sem, simprocAttr, List.length_map]); refine hK _ ?_; clear hK K))
  refine awp_seq_k fun K hK => ?_
  (refine awp_reg_seq [0, 1, 7, 8] fun K hK => ?_; (repeat' ((refine al_r rfl fun K' hK' => ?_); (repeat (simp only [go_sem, simprocAttr, List.length_map])); ((first | refine hK' _ _ ?_ | refine ⟨?_, hK' _ _ ?_⟩) <;> clear hK' K' <;> (first | (show alist _ _ _ _ _ _; skip) | (intro s hs; cases hs; done))))); all_goals (refine al_nil ?_; (simp only [go_sem, simprocAttr, List.length_map]); refine hK _ ?_; clear hK K))
  refine awp_block ?_
  refine awp_loop (fun m s => ∃ i : Nat, i ≤ ls.length ∧ m = ls.length - i ∧ (∀ j, j < i → ∀ y, ls[j]? = some y → p y = false) ∧ s = ⟨ofL [(0, blobs ls), (1, .fn f caps), (7, iD ls.length), (8, iD i)], obs, obs.length⟩) ⟨_, 0, Nat.zero_le _, rfl, fun j hj => absurd hj (by omega), rfl⟩ ?_
  rintro m s ⟨i, hi, rfl, hbefore, rfl⟩
  (refine awp_reg_seq [0, 1, 7, 8, 9] fun K hK => ?_; (repeat' ((refine al_r rfl fun K' hK' => ?_); (repeat (simp only [go_sem, simprocAttr, List.length_map])); ((refine hK' _ _ ?_) <;> clear hK' K'))); all_goals (refine al_nil ?_; (simp only [go_sem, simprocAttr, List.length_map]); refine hK _ ?_; clear hK K))
  refine awp_seq_k fun K hK => ?_
  refine awp_if (decide ((i : Int) < ls.length)) rfl (fun hc => ?_) (fun hc => ?_)
  · refine awp_skip ?_
    refine hK _ ?_; clear hK K
    have hi2 : i < ls.length := by simpa using hc
    obtain ⟨n, hget⟩ : ∃ n, ls[i]? = some n := ⟨_, List.getElem?_eq_getElem hi2⟩
    have hnn : (0 : Int) ≤ (i : Int) := Int.natCast_nonneg i

    refine awp_seq_k fun K hK => ?_
    refine awp_block ?_
    (refine awp_reg_seq [0, 1, 5, 7, 8] fun K hK => ?_; (repeat' ((refine al_r rfl fun K' hK' => ?_); (repeat (simp only [go_sem, simprocAttr, hget, hnn, List.getElem?_map, Int.toNat_natCast, Option.map_some, Blob.row])); ((refine hK' _ _ ?_) <;> clear hK' K'))); all_goals (refine al_nil ?_; (simp only [go_sem, simprocAttr, hget, hnn, List.getElem?_map, Int.toNat_natCast, Option.map_some, Blob.row]); refine hK _ ?_; clear hK K))
    refine awp_reg_seq [0, 1, 5, 7, 8, 16] fun K hK => ?_
    repeat' ((refine al_r rfl fun K' hK' => ?_); (repeat (simp only [go_sem, simprocAttr, hget, hnn, List.getElem?_map, Int.toNat_natCast, Option.map_some, Blob.row])); ((refine hK' _ _ ?_) <;> clear hK' K'))
    · refine al_run rfl rfl (by decide) fun K' hK' => ?_
      simp only [go_sem, simprocAttr, hget, hnn, List.getElem?_map, Int.toNat_natCast, Option.map_some, Blob.row]
      refine acall_o ids hcf (h n (List.mem_of_getElem? hget)) (by simpa [D.map, D.mapL, ren1] using hcap) hob hm hd hlt hl rfl (hK' _ _ ?_)
      clear hK' K'
      (refine al_nil ?_; (simp only [go_sem, simprocAttr, hget, hnn, List.getElem?_map, Int.toNat_natCast, Option.map_some, Blob.row]); refine hK _ ?_; clear hK K)
      refine awp_if (p n) rfl (fun hc => ?_) (fun hc => ?_)
      · (refine awp_reg_seq [4] fun K hK => ?_; (repeat' ((refine al_r rfl fun K' hK' => ?_); (repeat (simp only [go_sem, simprocAttr, hget, hnn, List.getElem?_map, Int.toNat_natCast, Option.map_some, Blob.row])); ((refine hK' _ _ ?_) <;> clear hK' K'))); all_goals (refine al_nil ?_; (simp only [go_sem, simprocAttr, hget, hnn, List.getElem?_map, Int.toNat_natCast, Option.map_some, Blob.row]); refine hK _ ?_; clear hK K))
        refine awp_ret ?_; (refine hR _ _ (.inl rfl) rfl ?_ ?_)
        · simp only [go_sem, simprocAttr, hget, hnn, List.getElem?_map, Int.toNat_natCast, Option.map_some, Blob.row]
          rw [firstI_at hbefore hget hc]
        · exact hob
      · have hpn := hc
        refine awp_skip ?_
        refine hK _ ?_; clear hK K
        (refine awp_reg_end [0, 1, 7, 8] fun K hK => ?_; (repeat' ((refine al_r rfl fun K' hK' => ?_); (repeat (simp only [go_sem, simprocAttr, hget, hnn, List.getElem?_map, Int.toNat_natCast, Option.map_some, Blob.row])); ((refine hK' _ _ ?_) <;> clear hK' K'))); all_goals (refine al_nil ?_; (simp only [go_sem, simprocAttr, hget, hnn, List.getElem?_map, Int.toNat_natCast, Option.map_some, Blob.row]); refine hK _ ?_; clear hK K))
        refine ⟨_, ?_, i + 1, hi2, rfl, ?_, ?_⟩
        · omega
        · intro j hj y hy
          by_cases e : j = i
          · subst e; rw [hget] at hy; cases hy; exact hpn
          · exact hbefore j (by omega) y hy
        · rw [wrap_succ hi2 hlen]

  · refine awp_exit ?_
    clear hK
    refine hK _ ?_; clear hK K
    have hi2 : i = ls.length := by simp at hc; omega
    (refine awp_reg_seq [4] fun K hK => ?_; (repeat' ((refine al_r rfl fun K' hK' => ?_); (repeat (simp only [go_sem, simprocAttr, List.length_map])); ((refine hK' _ _ ?_) <;> clear hK' K'))); all_goals (refine al_nil ?_; (simp only [go_sem, simprocAttr, List.length_map]); refine hK _ ?_; clear hK K))
    refine awp_ret ?_; (refine hR _ _ (.inl rfl) rfl ?_ ?_)
    · simp only [go_sem, simprocAttr, List.length_map]
      rw [firstI_none fun j y hy => hbefore j (by
        rcases Nat.lt_or_ge j ls.length with h' | h'
        · omega
        · simp [List.getElem?_eq_none h'] at hy) y hy]
    · exact hob



def hasText (text : ByteArray) (b : Blob) : Bool := decide (b.many > 0) && (b.text.toList == text.toList)

theorem find (ls : List Blob) (text : ByteArray) (hlen : ls.length ≤ maxLen) : ACallP Try.prog 75 [blobs ls, sD text] (iD (firstI (hasText text) ls)) := by
  refine acallp_fn [4] Try.func75 rfl rfl Try.ntmps75 (by simp) fun R hR => ?_
  (refine awp_reg_seq [0, 3] fun K hK => ?_; (repeat' ((refine al_r rfl fun K' hK' => ?_); (repeat (simp only [go_sem, simprocAttr])); ((refine hK' _ _ ?_) <;> clear hK' K'))); all_goals (refine al_nil ?_; (simp only [go_sem, simprocAttr]); refine hK _ ?_; clear hK K))
  refine awp_reg_seq [4] fun K hK => ?_
  repeat' ((refine al_r rfl fun K' hK' => ?_); (repeat (simp only [go_sem, simprocAttr])); ((refine hK' _ _ ?_) <;> clear hK' K'))
  have := indexBlob ls hlen 99 [.ptr 0 0 0] (hasText text) [.box [sD text]] [0] (by simp) (by simp) (by simp) rfl rfl rfl (by simp) (by simp) Try.call99 fun n _ => find1 n text
  refine al_run rfl rfl (by decide) fun K' hK' => ?_
  simp only [go_sem, simprocAttr]
  refine acall_o (f := 76) [0] Try.call76 this rfl rfl rfl (by simp) (by simp) (by simp) rfl (hK' _ _ ?_)
  clear hK' K'
  repeat' ((refine al_r rfl fun K' hK' => ?_); (repeat (simp only [go_sem, simprocAttr])); ((refine hK' _ _ ?_) <;> clear hK' K'))
  (refine al_nil ?_; (simp only [go_sem, simprocAttr]); refine hK _ ?_; clear hK K)
  refine awp_ret ?_; (refine hR _ _ (.inl rfl) rfl ?_)
  simp only [go_sem, simprocAttr]

theorem hold1 (b : Blob) : ACallP Try.prog 77 [blobD b] (bD (b.many == 0)) := by
  refine acallp_fn [2] Try.func77 rfl rfl Try.ntmps77 (by simp) fun R hR => ?_
  (refine awp_reg_seq [1] fun K hK => ?_; (repeat' ((refine al_r rfl fun K' hK' => ?_); (repeat (simp only [go_sem, simprocAttr])); ((refine hK' _ _ ?_) <;> clear hK' K'))); all_goals (refine al_nil ?_; (simp only [go_sem, simprocAttr]); refine hK _ ?_; clear hK K))
  (refine awp_reg_seq [2] fun K hK => ?_; (repeat' ((refine al_r rfl fun K' hK' => ?_); (repeat (simp only [go_sem, simprocAttr])); ((refine hK' _ _ ?_) <;> clear hK' K'))); all_goals (refine al_nil ?_; (simp only [go_sem, simprocAttr]); refine hK _ ?_; clear hK K))
  refine awp_ret ?_; (refine hR _ _ (.inl rfl) rfl ?_)
  simp only [go_sem, simprocAttr]



abbrev noText : ByteArray := ByteArray.mk #[]

def badBlob (b : Blob) : Bool := decide ((b.text.size : Int) > 64) || decide (b.many < 0) || decide (b.many > 1000) || (b.many == 0 && !(b.text.toList == noText.toList))

def dupBlob (pre : List Blob) (b : Blob) : Bool := decide (b.many > 0) && decide (firstI (hasText b.text) pre ≥ 0)

def scanS (pre : List Blob) : List Blob → Int
  | [] => 0
  | b :: l => if badBlob b then 1 else if dupBlob pre b then 5 else scanS (pre ++ [b]) l

/-- What Check answers. -/
def checkS (ls : List Blob) : Int := if decide ((ls.length : Int) > 60) then 2 else scanS [] ls

theorem take_succ_get {α : Type} {l : List α} {i : Nat} {x : α} (h : l[i]? = some x) : l.take (i + 1) = l.take i ++ [x] ∧ l.drop i = x :: l.drop (i + 1) := by
  have hlt : i < l.length := by
    rcases Nat.lt_or_ge i l.length with h' | h'
    · exact h'
    · simp [List.getElem?_eq_none h'] at h
  rw [List.getElem?_eq_getElem hlt] at h
  cases h
  exact ⟨by rw [List.take_succ_eq_append_getElem hlt], List.drop_eq_getElem_cons hlt⟩


theorem check (ls : List Blob) (hlen : ls.length ≤ maxLen) : ACallP Try.prog 74 [blobs ls] (iD (checkS ls)) := by
  have hrow2 : ∀ x, x ∈ ls.map Blob.row → x.length = 2 := by
    intro y hy
    obtain ⟨l, _, rfl⟩ := List.mem_map.1 hy
    rfl
  obtain ⟨r, hr⟩ : ∃ r, r = scanS [] ls := ⟨_, rfl⟩
  have hv : checkS ls = if decide ((ls.length : Int) > 60) then 2 else r := by rw [hr]; rfl
  rw [hv]
  clear hv
  refine acallp_fn [2] Try.func74 rfl rfl Try.ntmps74 (by simp) fun R hR => ?_
  (refine awp_reg_seq [0] fun K hK => ?_; (repeat' ((refine al_r rfl fun K' hK' => ?_); (repeat (simp only [go_sem, simprocAttr, List.length_map])); ((refine hK' _ _ ?_) <;> clear hK' K'))); all_goals (refine al_nil ?_; (simp only [go_sem, simprocAttr, List.length_map]); refine hK _ ?_; clear hK K))
  refine awp_seq_k fun K hK => ?_
  (refine awp_reg_seq [0, 7] fun K hK => ?_; (repeat' ((refine al_r rfl fun K' hK' => ?_); (repeat (simp only [go_sem, simprocAttr, List.length_map])); ((first | refine hK' _ _ ?_ | refine ⟨?_, hK' _ _ ?_⟩) <;> clear hK' K' <;> (first | (show alist _ _ _ _ _ _; skip) | (intro s hs; cases hs; done))))); all_goals (refine al_nil ?_; (simp only [go_sem, simprocAttr, List.length_map]); refine hK _ ?_; clear hK K))
  refine awp_if (_) rfl (fun hc => ?_) (fun hc => ?_)
  · (refine awp_reg_seq [2] fun K hK => ?_; (repeat' ((refine al_r rfl fun K' hK' => ?_); (repeat (simp only [go_sem, simprocAttr, List.length_map])); ((refine hK' _ _ ?_) <;> clear hK' K'))); all_goals (refine al_nil ?_; (simp only [go_sem, simprocAttr, List.length_map]); refine hK _ ?_; clear hK K))
    refine awp_ret ?_; (refine hR _ _ (.inl rfl) rfl ?_)
    simp only [hc, go_sem, simprocAttr, List.length_map]
  have hc0 := hc
  refine awp_skip ?_
  refine hK _ ?_; clear hK K
  refine awp_seq_k fun K hK => ?_
  (refine awp_reg_seq [0, 8, 9, 10] fun K hK => ?_; (repeat' ((refine al_r rfl fun K' hK' => ?_); (repeat (simp only [go_sem, simprocAttr, List.length_map])); ((first | refine hK' _ _ ?_ | refine ⟨?_, hK' _ _ ?_⟩) <;> clear hK' K' <;> (first | (show alist _ _ _ _ _ _; skip) | (intro s hs; cases hs; done))))); all_goals (refine al_nil ?_; (simp only [go_sem, simprocAttr, List.length_map]); refine hK _ ?_; clear hK K))
  refine awp_block ?_
  refine awp_loop (fun m s => ∃ i : Nat, i ≤ ls.length ∧ m = ls.length - i ∧ r = scanS (ls.take i) (ls.drop i) ∧ s = ⟨ofL [(0, blobs ls), (8, blobs ls), (9, iD ls.length), (10, iD i)], [], 0⟩) ⟨_, 0, Nat.zero_le _, rfl, by simpa using hr, rfl⟩ ?_
  clear hr
  rintro m s ⟨i, hi, rfl, hr, rfl⟩
  (refine awp_reg_seq [0, 8, 9, 10, 11] fun K hK => ?_; (repeat' ((refine al_r rfl fun K' hK' => ?_); (repeat (simp only [go_sem, simprocAttr, List.length_map])); ((refine hK' _ _ ?_) <;> clear hK' K'))); all_goals (refine al_nil ?_; (simp only [go_sem, simprocAttr, List.length_map]); refine hK _ ?_; clear hK K))
  refine awp_seq_k fun K hK => ?_
  refine awp_if (decide ((i : Int) < ls.length)) rfl (fun hc => ?_) (fun hc => ?_)
  · refine awp_skip ?_
    refine hK _ ?_; clear hK K
    have hi2 : i < ls.length := by simpa using hc
    obtain ⟨x, hget⟩ : ∃ x, ls[i]? = some x := ⟨_, List.getElem?_eq_getElem hi2⟩
    have hnn : (0 : Int) ≤ (i : Int) := Int.natCast_nonneg i
    obtain ⟨ht, hd⟩ := take_succ_get hget
    rw [hd] at hr
    have hfind := find (ls.take i) x.text (by rw [List.length_take]; omega)
    simp only [blobs, List.map_take] at hfind
    obtain ⟨fi, hfi⟩ : ∃ fi, fi = firstI (hasText x.text) (ls.take i) := ⟨_, rfl⟩
    rw [← hfi] at hfind
    have hr2 : r = if badBlob x then 1 else if (decide (x.many > 0) && decide (fi ≥ 0)) then 5 else scanS (ls.take i ++ [x]) (ls.drop (i + 1)) := by rw [hr, hfi]; rfl

    refine awp_seq_k fun K hK => ?_
    refine awp_block ?_
    (refine awp_reg_seq [0, 3, 4, 8, 9, 10] fun K hK => ?_; (repeat' ((first | refine al_r rfl fun K' hK' => ?_ | refine al_d rfl fun K' hK' => ?_); (repeat (first | (simp only [go_sem, simprocAttr, hget, hnn, Int.toNat_natCast, List.getElem?_map, Option.map_some, Blob.row, List.length_map, List.drop_zero, Nat.sub_zero]) | refine AS.mk ?_)); ((first | refine hK' _ _ ?_ | refine ⟨?_, hK' _ _ ?_⟩) <;> clear hK' K' <;> (first | (show alist _ _ _ _ _ _; skip) | (simp; done))))); all_goals (refine al_nil ?_; (simp only [go_sem, simprocAttr, hget, hnn, Int.toNat_natCast, List.getElem?_map, Option.map_some, Blob.row, List.length_map, List.drop_zero, Nat.sub_zero]); refine hK _ ?_; clear hK K))
    (refine awp_frz [0, 3, 4, 8, 9, 10] [] (by decide) (by (simp; done)) ?_; simp only [go_sem, simprocAttr, hget, hnn, Int.toNat_natCast, List.getElem?_map, Option.map_some, Blob.row, List.length_map, List.drop_zero, Nat.sub_zero])
    refine awp_block ?_
    refine awp_reg_to [0, 3, 4, 8, 9, 10, 15] (k := ?_) (h := ?_) (s1 := ⟨ofL [(0, blobs ls), (3, iD i), (4, .rd [.lit (.string x.text), .lit (.int .i64 x.many)] 0), (8, blobs ls), (9, iD ls.length), (10, iD i), (15, bD (decide ((x.text.size : Int) > 64) || decide (x.many < 0) || decide (x.many > 1000) || (x.many == 0 && !(x.text.toList == noText.toList))))], [], 0⟩); · ((repeat' (first | ((first | refine al_r rfl fun K' hK' => ?_ | refine al_t rfl rfl fun K' hK' => ?_); (repeat (simp only [go_sem, simprocAttr, hget, hnn, Int.toNat_natCast, List.getElem?_map, Option.map_some, Blob.row, List.length_map, List.drop_zero, Nat.sub_zero])); ((first | refine hK' _ _ ?_ | refine ⟨?_, hK' _ _ ?_⟩) <;> clear hK' K' <;> (first | (show alist _ _ _ _ _ _; skip) | (simp; done)))) | refine al_e rfl rfl ?_ | refine al_u rfl rfl ?_ | ((fail_if_success (refine al_t rfl rfl fun K' hK' => ?_)); refine al_s _ rfl rfl rfl (fun hb => ?_) (fun hb => ?_)))); all_goals (refine al_nil ?_; simp only [go_sem, simprocAttr, hget, hnn, Int.toNat_natCast, List.getElem?_map, Option.map_some, Blob.row, List.length_map, List.drop_zero, Nat.sub_zero, *, Bool.and_true, Bool.and_false, Bool.true_and, Bool.false_and, Bool.or_true, Bool.true_or, Bool.or_false, Bool.false_or, Bool.not_true, Bool.not_false, Bool.false_eq_true]))
    refine awp_if (_) rfl (fun hc => ?_) (fun hc => ?_)
    · have hb : badBlob x = true := hc
      (refine awp_reg_seq [2] fun K hK => ?_; (repeat' ((refine al_r rfl fun K' hK' => ?_); (repeat (simp only [go_sem, simprocAttr, hget, hnn, Int.toNat_natCast, List.getElem?_map, Option.map_some, Blob.row, List.length_map, List.drop_zero, Nat.sub_zero])); ((refine hK' _ _ ?_) <;> clear hK' K'))); all_goals (refine al_nil ?_; (simp only [go_sem, simprocAttr, hget, hnn, Int.toNat_natCast, List.getElem?_map, Option.map_some, Blob.row, List.length_map, List.drop_zero, Nat.sub_zero]); refine hK _ ?_; clear hK K))
      refine awp_ret ?_; (refine hR _ _ (.inl rfl) rfl ?_)
      rw [if_pos hb] at hr2
      simp only [hc0, hr2, go_sem, simprocAttr, hget, hnn, Int.toNat_natCast, List.getElem?_map, Option.map_some, Blob.row, List.length_map, List.drop_zero, Nat.sub_zero, Bool.false_eq_true]
    have hb : ¬ badBlob x = true := by rw [show badBlob x = false from hc]; simp
    rw [if_neg hb] at hr2
    refine awp_draw_seq (by kernel_rfl) [0, 8, 9, 10, 40] fun K hK => ?_
    ((refine ah_r 0 rfl (by kernel_rfl) rfl fun K' hK' => ?_); (simp only [go_sem, simprocAttr, hget, hnn, Int.toNat_natCast, List.getElem?_map, Option.map_some, Blob.row, List.length_map, List.drop_zero, Nat.sub_zero]); ((refine hK' _ ?_); clear hK' K'))
    ((refine ah_r 1 rfl (by kernel_rfl) rfl fun K' hK' => ?_); (simp only [go_sem, simprocAttr, hget, hnn, Int.toNat_natCast, List.getElem?_map, Option.map_some, Blob.row, List.length_map, List.drop_zero, Nat.sub_zero]); ((refine hK' _ ?_); clear hK' K'))
    ((refine ah_r 2 rfl (by kernel_rfl) rfl fun K' hK' => ?_); (simp only [go_sem, simprocAttr, hget, hnn, Int.toNat_natCast, List.getElem?_map, Option.map_some, Blob.row, List.length_map, List.drop_zero, Nat.sub_zero]); ((refine hK' _ ?_); clear hK' K'))
    ((refine ah_r 3 rfl (by kernel_rfl) rfl fun K' hK' => ?_); (simp only [go_sem, simprocAttr, hget, hnn, Int.toNat_natCast, List.getElem?_map, Option.map_some, Blob.row, List.length_map, List.drop_zero, Nat.sub_zero]); ((refine hK' _ ?_); clear hK' K'))
    refine ah_split 44 _ rfl (fun hb2 => ?_) (fun hb2 => ?_)
    · ((refine ah_t 4 rfl (by kernel_rfl) rfl rfl fun K' hK' => ?_); (simp only [go_sem, simprocAttr, hget, hnn, Int.toNat_natCast, List.getElem?_map, Option.map_some, Blob.row, List.length_map, List.drop_zero, Nat.sub_zero]); ((refine hK' _ ?_); clear hK' K'))
      ((refine ah_t 5 rfl (by kernel_rfl) rfl rfl fun K' hK' => ?_); (simp only [go_sem, simprocAttr, hget, hnn, Int.toNat_natCast, List.getElem?_map, Option.map_some, Blob.row, List.length_map, List.drop_zero, Nat.sub_zero]); ((refine hK' _ ?_); clear hK' K'))
      ((refine ah_t 7 rfl (by kernel_rfl) rfl rfl fun K' hK' => ?_); (simp only [go_sem, simprocAttr, hget, hnn, Int.toNat_natCast, List.getElem?_map, Option.map_some, Blob.row, List.length_map, List.drop_zero, Nat.sub_zero]); ((refine hK' _ ?_); clear hK' K'))
      ((refine ah_t 8 rfl (by kernel_rfl) rfl rfl fun K' hK' => ?_); (simp only [go_sem, simprocAttr, hget, hnn, Int.toNat_natCast, List.getElem?_map, Option.map_some, Blob.row, List.length_map, List.drop_zero, Nat.sub_zero]); ((refine hK' _ ?_); clear hK' K'))
      (refine ah_one 6 rfl (by kernel_rfl) ?_; (repeat' ((refine al_t rfl rfl fun K' hK' => ?_); (repeat (simp only [go_sem, simprocAttr, hget, hnn, Int.toNat_natCast, List.getElem?_map, Option.map_some, Blob.row, List.length_map, List.drop_zero, Nat.sub_zero])); ((refine ⟨?_, ?_, hK' _ _ ?_⟩) <;> clear hK' K' <;> (first | (show alist _ _ _ _ _ _; skip) | assumption | omega)))); all_goals refine al_nil ?_)
      (refine ah_one 9 rfl (by kernel_rfl) ?_; (repeat' ((refine al_t rfl rfl fun K' hK' => ?_); (repeat (simp only [go_sem, simprocAttr, hget, hnn, Int.toNat_natCast, List.getElem?_map, Option.map_some, Blob.row, List.length_map, List.drop_zero, Nat.sub_zero])); ((show AC _ _ (D.fn 75 _) _ _); refine acall_p (f := 75) (e := rfl) (hr := rfl) (k := hK' _ _ ?_) (hc := Try.call75) (h := hfind); clear hK' K'))); all_goals refine al_nil ?_)
      ((refine ah_t 10 rfl (by kernel_rfl) rfl rfl fun K' hK' => ?_); (simp only [go_sem, simprocAttr, hget, hnn, Int.toNat_natCast, List.getElem?_map, Option.map_some, Blob.row, List.length_map, List.drop_zero, Nat.sub_zero]); ((refine hK' _ ?_); clear hK' K'))
      ((refine ah_r 11 rfl (by kernel_rfl) rfl fun K' hK' => ?_); (simp only [go_sem, simprocAttr, hget, hnn, Int.toNat_natCast, List.getElem?_map, Option.map_some, Blob.row, List.length_map, List.drop_zero, Nat.sub_zero]); ((refine hK' _ ?_); clear hK' K'))
      ((refine ah_r 12 rfl (by kernel_rfl) rfl fun K' hK' => ?_); (simp only [go_sem, simprocAttr, hget, hnn, Int.toNat_natCast, List.getElem?_map, Option.map_some, Blob.row, List.length_map, List.drop_zero, Nat.sub_zero]); ((refine hK' _ ?_); clear hK' K'))
      (refine ah_done (by kernel_rfl) ?_; (simp only [go_sem, simprocAttr, hget, hnn, Int.toNat_natCast, List.getElem?_map, Option.map_some, Blob.row, List.length_map, List.drop_zero, Nat.sub_zero]); refine hK _ ?_; clear hK K)
      refine awp_if (decide (fi ≥ 0)) rfl (fun hc => ?_) (fun hc => ?_)
      · (refine awp_reg_seq [2] fun K hK => ?_; (repeat' ((refine al_r rfl fun K' hK' => ?_); (repeat (simp only [go_sem, simprocAttr, hget, hnn, Int.toNat_natCast, List.getElem?_map, Option.map_some, Blob.row, List.length_map, List.drop_zero, Nat.sub_zero])); ((refine hK' _ _ ?_) <;> clear hK' K'))); all_goals (refine al_nil ?_; (simp only [go_sem, simprocAttr, hget, hnn, Int.toNat_natCast, List.getElem?_map, Option.map_some, Blob.row, List.length_map, List.drop_zero, Nat.sub_zero]); refine hK _ ?_; clear hK K))
        refine awp_ret ?_; (refine hR _ _ (.inl rfl) rfl ?_)
        rw [hb2, hc] at hr2
        simp only [hc0, hr2, go_sem, simprocAttr, hget, hnn, Int.toNat_natCast, List.getElem?_map, Option.map_some, Blob.row, List.length_map, List.drop_zero, Nat.sub_zero, Bool.false_eq_true, Bool.and_true]
      · rw [hb2, hc] at hr2
        refine awp_skip ?_
        refine hK _ ?_; clear hK K
        (refine awp_reg_end [0, 8, 9, 10] fun K hK => ?_; (repeat' ((refine al_r rfl fun K' hK' => ?_); (repeat (simp only [go_sem, simprocAttr, hget, hnn, Int.toNat_natCast, List.getElem?_map, Option.map_some, Blob.row, List.length_map, List.drop_zero, Nat.sub_zero])); ((refine hK' _ _ ?_) <;> clear hK' K'))); all_goals (refine al_nil ?_; (simp only [go_sem, simprocAttr, hget, hnn, Int.toNat_natCast, List.getElem?_map, Option.map_some, Blob.row, List.length_map, List.drop_zero, Nat.sub_zero]); refine hK _ ?_; clear hK K))
        refine ⟨_, ?_, i + 1, hi2, rfl, ?_, ?_⟩
        · omega
        · rw [hr2, ht]; rfl
        · rw [wrap_succ hi2 hlen]
    · (refine ah_e 4 rfl (by kernel_rfl) rfl rfl ?_)
      (refine ah_e 5 rfl (by kernel_rfl) rfl rfl ?_)
      (refine ah_e 7 rfl (by kernel_rfl) rfl rfl ?_)
      (refine ah_e 8 rfl (by kernel_rfl) rfl rfl ?_)
      (refine ah_one 6 rfl (by kernel_rfl) ?_; (repeat' (refine al_e rfl rfl ?_)); all_goals refine al_nil ?_)
      (refine ah_one 9 rfl (by kernel_rfl) ?_; (repeat' (refine al_e rfl rfl ?_)); all_goals refine al_nil ?_)
      (refine ah_e 10 rfl (by kernel_rfl) rfl rfl ?_)
      ((refine ah_r 11 rfl (by kernel_rfl) rfl fun K' hK' => ?_); (simp only [go_sem, simprocAttr, hget, hnn, Int.toNat_natCast, List.getElem?_map, Option.map_some, Blob.row, List.length_map, List.drop_zero, Nat.sub_zero]); ((refine hK' _ ?_); clear hK' K'))
      ((refine ah_r 12 rfl (by kernel_rfl) rfl fun K' hK' => ?_); (simp only [go_sem, simprocAttr, hget, hnn, Int.toNat_natCast, List.getElem?_map, Option.map_some, Blob.row, List.length_map, List.drop_zero, Nat.sub_zero]); ((refine hK' _ ?_); clear hK' K'))
      (refine ah_done (by kernel_rfl) ?_; (simp only [go_sem, simprocAttr, hget, hnn, Int.toNat_natCast, List.getElem?_map, Option.map_some, Blob.row, List.length_map, List.drop_zero, Nat.sub_zero]); refine hK _ ?_; clear hK K)
      rw [hb2] at hr2
      refine awp_if (false) rfl (fun hc => ?_) (fun hc => ?_)
      · cases hc
      · refine awp_skip ?_
        refine hK _ ?_; clear hK K
        (refine awp_reg_end [0, 8, 9, 10] fun K hK => ?_; (repeat' ((refine al_r rfl fun K' hK' => ?_); (repeat (simp only [go_sem, simprocAttr, hget, hnn, Int.toNat_natCast, List.getElem?_map, Option.map_some, Blob.row, List.length_map, List.drop_zero, Nat.sub_zero])); ((refine hK' _ _ ?_) <;> clear hK' K'))); all_goals (refine al_nil ?_; (simp only [go_sem, simprocAttr, hget, hnn, Int.toNat_natCast, List.getElem?_map, Option.map_some, Blob.row, List.length_map, List.drop_zero, Nat.sub_zero]); refine hK _ ?_; clear hK K))
        refine ⟨_, ?_, i + 1, hi2, rfl, ?_, ?_⟩
        · omega
        · rw [hr2, ht]; rfl
        · rw [wrap_succ hi2 hlen]

  · refine awp_exit ?_
    clear hK
    refine hK _ ?_; clear hK K
    have hi2 : i = ls.length := by simp at hc; omega
    subst hi2
    have : r = 0 := by rw [hr]; simp [scanS]
    (refine awp_reg_seq [2] fun K hK => ?_; (repeat' ((refine al_r rfl fun K' hK' => ?_); (repeat (simp only [go_sem, simprocAttr, List.length_map])); ((refine hK' _ _ ?_) <;> clear hK' K'))); all_goals (refine al_nil ?_; (simp only [go_sem, simprocAttr, List.length_map]); refine hK _ ?_; clear hK K))
    refine awp_ret ?_; (refine hR _ _ (.inl rfl) rfl ?_)
    simp only [hc0, this, go_sem, simprocAttr, List.length_map, Bool.false_eq_true]
theorem firstI_range {α : Type} (p : α → Bool) (l : List α) : firstI p l = -1 ∨ ∃ (i : Nat) (x : α), firstI p l = i ∧ l[i]? = some x ∧ p x = true := by
  unfold firstI
  cases h : l.findIdx? p with
  | none => exact .inl rfl
  | some i =>
    rw [List.findIdx?_eq_some_iff_getElem] at h
    obtain ⟨h1, h2, _⟩ := h
    exact .inr ⟨i, _, rfl, List.getElem?_eq_getElem h1, h2⟩

theorem scan_bound {ls : List Blob} (h : checkS ls = 0) : ls.length ≤ 60 := by
  unfold checkS at h
  by_cases h' : (ls.length : Int) > 60
  · simp [h'] at h
  · omega



/-- Is there no entry at this place? -/
def freeAt (ls : List Blob) (k : Int) : Bool := decide (k < 0) || decide (k ≥ (ls.length : Int)) || (match ls[k.toNat]? with | some b => b.many == 0 | none => true)

/-- What held answers. -/
def heldS (ls : List Blob) (k : Int) : Int := if checkS ls == 0 && freeAt ls k then 4 else checkS ls


theorem held (ls : List Blob) (k : Int) (hlen : ls.length ≤ maxLen) : ACallP Try.prog 78 [blobs ls, iD k] (iD (heldS ls k)) := by
  have hck := check ls hlen
  have hv : heldS ls k = if checkS ls == 0 && freeAt ls k then 4 else checkS ls := rfl
  rw [hv]
  clear hv
  generalize checkS ls = e at hck ⊢
  refine acallp_fn [4] Try.func78 rfl rfl Try.ntmps78 (by simp) fun R hR => ?_
  (refine awp_reg_seq [0, 1] fun K hK => ?_; (repeat' ((refine al_r rfl fun K' hK' => ?_); (repeat (simp only [go_sem, simprocAttr, List.length_map])); ((refine hK' _ _ ?_) <;> clear hK' K'))); all_goals (refine al_nil ?_; (simp only [go_sem, simprocAttr, List.length_map]); refine hK _ ?_; clear hK K))
  (refine awp_reg_seq [0, 1, 5] fun K hK => ?_; (repeat' ((refine al_r rfl fun K' hK' => ?_); (repeat (simp only [go_sem, simprocAttr, List.length_map])); (first | ((refine hK' _ _ ?_) <;> clear hK' K') | ((show AC _ _ (D.fn 74 _) _ _); refine acall_p (f := 74) (e := rfl) (hr := rfl) (k := hK' _ _ ?_) (hc := Try.call74) (h := hck); clear hK' K')))); all_goals (refine al_nil ?_; (simp only [go_sem, simprocAttr, List.length_map]); refine hK _ ?_; clear hK K))
  refine awp_seq_kc fun K hK hcut => ?_
  have key : K ⟨ofL [(5, iD (if e == 0 && freeAt ls k then 4 else e))], [], 0⟩ := by
    clear hcut
    refine hK _ ?_; clear hK K
    (refine awp_reg_seq [4] fun K hK => ?_; (repeat' ((refine al_r rfl fun K' hK' => ?_); (repeat (simp only [go_sem, simprocAttr, List.length_map])); ((refine hK' _ _ ?_) <;> clear hK' K'))); all_goals (refine al_nil ?_; (simp only [go_sem, simprocAttr, List.length_map]); refine hK _ ?_; clear hK K))
    refine awp_ret ?_; (refine hR _ _ (.inl rfl) rfl ?_)
    simp only [go_sem, simprocAttr, List.length_map]
  clear hK
  refine awp_reg_to [5, 27] (s1 := ⟨ofL [(5, iD e), (27, bD (e == 0 && freeAt ls k))], [], 0⟩) (h := ?_) (k := ?_)
  · clear key hcut
    by_cases h0 : k < 0
    · have hf : freeAt ls k = true := by simp [freeAt, h0]
      have hb0 : decide (k < 0) = true := by simpa using h0
      rw [hf]

      repeat' (first | ((first | refine al_r rfl fun K' hK' => ?_ | refine al_t rfl rfl fun K' hK' => ?_); (repeat (simp only [go_sem, simprocAttr, List.length_map, hb0])); ((refine hK' _ _ ?_) <;> clear hK' K')) | refine al_e rfl rfl ?_ | refine al_u rfl rfl ?_ | ((fail_if_success (refine al_t rfl rfl fun K' hK' => ?_)); refine al_s _ rfl rfl rfl (fun hb => ?_) (fun hb => ?_)))
      all_goals (refine al_nil ?_; simp only [go_sem, simprocAttr, List.length_map, hb0, *, Bool.and_true, Bool.and_false, Bool.true_and, Bool.false_and, Bool.or_true, Bool.true_or, Bool.or_false, Bool.false_or, Bool.not_true, Bool.not_false, Bool.false_eq_true])
    · have hb0 : decide (k < 0) = false := by simpa using h0
      by_cases h1 : k ≥ (ls.length : Int)
      · have hf : freeAt ls k = true := by simp [freeAt, h1]
        have hb1 : decide (k ≥ (ls.length : Int)) = true := by simpa using h1
        rw [hf]

        repeat' (first | ((first | refine al_r rfl fun K' hK' => ?_ | refine al_t rfl rfl fun K' hK' => ?_); (repeat (simp only [go_sem, simprocAttr, List.length_map, hb0, hb1])); ((first | refine hK' _ _ ?_ | refine ⟨?_, hK' _ _ ?_⟩) <;> clear hK' K' <;> (first | (show alist _ _ _ _ _ _; skip) | (intro s hs; cases hs; done)))) | refine al_e rfl rfl ?_ | refine al_u rfl rfl ?_ | ((fail_if_success (refine al_t rfl rfl fun K' hK' => ?_)); refine al_s _ rfl rfl rfl (fun hb => ?_) (fun hb => ?_)))
        all_goals (refine al_nil ?_; simp only [go_sem, simprocAttr, List.length_map, hb0, hb1, *, Bool.and_true, Bool.and_false, Bool.true_and, Bool.false_and, Bool.or_true, Bool.true_or, Bool.or_false, Bool.false_or, Bool.not_true, Bool.not_false, Bool.false_eq_true])
      · have hb1 : decide (k ≥ (ls.length : Int)) = false := by simpa using h1
        obtain ⟨i, rfl⟩ : ∃ i : Nat, k = i := ⟨k.toNat, by omega⟩
        have hi : i < ls.length := by omega
        obtain ⟨b, hget⟩ : ∃ b, ls[i]? = some b := ⟨_, List.getElem?_eq_getElem hi⟩
        have hnn : (0 : Int) ≤ (i : Int) := Int.natCast_nonneg i
        have hf : freeAt ls i = (b.many == 0) := by simp only [freeAt, hb0, hb1, Int.toNat_natCast, hget, Bool.false_or]
        rw [hf]

        repeat' (first | ((first | refine al_r rfl fun K' hK' => ?_ | refine al_t rfl rfl fun K' hK' => ?_); (repeat (simp only [go_sem, simprocAttr, List.length_map, hb0, hb1, hget, hnn, Int.toNat_natCast, List.getElem?_map, Option.map_some, Blob.row])); ((first | refine hK' _ _ ?_ | refine ⟨?_, hK' _ _ ?_⟩) <;> clear hK' K' <;> (first | (show alist _ _ _ _ _ _; skip) | (intro s hs; cases hs; done)))) | refine al_e rfl rfl ?_ | refine al_u rfl rfl ?_ | ((fail_if_success (refine al_t rfl rfl fun K' hK' => ?_)); refine al_s _ rfl rfl rfl (fun hb => ?_) (fun hb => ?_)))
        all_goals (refine al_nil ?_; simp only [go_sem, simprocAttr, List.length_map, hb0, hb1, hget, hnn, Int.toNat_natCast, List.getElem?_map, Option.map_some, Blob.row, *, Bool.and_true, Bool.and_false, Bool.true_and, Bool.false_and, Bool.or_true, Bool.true_or, Bool.or_false, Bool.false_or, Bool.not_true, Bool.not_false, Bool.false_eq_true])

  · refine awp_if (_) rfl (fun hc => ?_) (fun hc => ?_)
    · rw [hc] at key
      (refine awp_reg_end [5] fun K hK => ?_; (repeat' ((refine al_r rfl fun K' hK' => ?_); (repeat (simp only [go_sem, simprocAttr, List.length_map])); ((refine hK' _ _ ?_) <;> clear hK' K'))); all_goals (refine al_nil ?_; (simp only [go_sem, simprocAttr, List.length_map]); refine hK _ ?_; clear hK K))
      exact key
    · rw [hc] at key
      refine awp_skip ?_
      refine hcut _ [5] [] (by decide) (by simp) ?_
      simp only [go_sem, simprocAttr, List.length_map]
      exact key

theorem held_zero {ls : List Blob} {k : Int} (h : heldS ls k = 0) : checkS ls = 0 ∧ ∃ (i : Nat) (b : Blob), k = i ∧ ls[i]? = some b ∧ b.many ≠ 0 := by
  unfold heldS at h
  split at h
  · cases h
  · rename_i hc
    rw [h] at hc
    refine ⟨h, ?_⟩
    simp only [beq_self_eq_true, Bool.true_and, freeAt, Bool.or_eq_true, decide_eq_true_eq, not_or] at hc
    obtain ⟨⟨h1, h2⟩, h3⟩ := hc
    obtain ⟨i, rfl⟩ : ∃ i : Nat, k = i := ⟨k.toNat, by omega⟩
    have hi : i < ls.length := by omega
    refine ⟨i, ls[i], rfl, List.getElem?_eq_getElem hi, ?_⟩
    rw [Int.toNat_natCast, List.getElem?_eq_getElem hi] at h3
    simpa using h3



theorem cloneS (xs : List (List PV)) (hx : ∀ x, x ∈ xs → x.length = 2) (hn : xs.length ≤ 5864062014805) :
    ACalls Try.prog 44 [.p (.sl xs)] [] (fun r obs => r = .ref 0 0 xs.length ∧ obs = [.row 2 xs]) := by
  refine acalln_fn [2] Try.func44 rfl rfl Try.ntmps44 (by simp) fun R hR => ?_
  (refine awp_reg_seq [0] fun K hK => ?_; (repeat' ((refine al_r rfl fun K' hK' => ?_); (repeat (simp only [go_sem, simprocAttr])); ((refine hK' _ _ ?_) <;> clear hK' K'))); all_goals (refine al_nil ?_; (simp only [go_sem, simprocAttr]); refine hK _ ?_; clear hK K))
  refine awp_seq_k fun K hK => ?_
  refine awp_reg_seq [0, 4] fun K hK => ?_
  repeat' ((refine al_r rfl fun K' hK' => ?_); (repeat (simp only [go_sem, simprocAttr])); ((refine hK' _ _ ?_) <;> clear hK' K'))
  refine al_run rfl rfl (by decide) fun K' hK' => ?_
  simp only [go_sem, simprocAttr]
  refine ⟨⟨_, rfl⟩, ?_⟩
  intro b hb
  refine hK' _ _ ?_
  clear hK' K'
  (refine al_nil ?_; (simp only [go_sem, simprocAttr]); refine hK _ ?_; clear hK K)
  refine awp_if (b) rfl (fun hc => ?_) (fun hc => ?_)
  · have hx0 : xs = [] := by
      cases xs with
      | nil => rfl
      | cons y l => have := hb (by simp); rw [this] at hc; cases hc
    subst hx0
    (refine awp_reg_seq [2] fun K hK => ?_; (repeat' ((refine al_r rfl fun K' hK' => ?_); (repeat (simp only [go_sem, simprocAttr])); ((refine hK' _ _ ?_) <;> clear hK' K'))); all_goals (refine al_nil ?_; (simp only [go_sem, simprocAttr]); refine hK _ ?_; clear hK K))
    refine awp_born 2 2 rfl ?_
    refine awp_ret (hR _ _ [0] (.inl rfl) rfl (by simp) ?_)
    refine ⟨?_, ?_⟩ <;> simp only [go_sem, simprocAttr]
  · refine awp_skip ?_
    refine hK _ ?_; clear hK K
    refine awp_reg_seq [2] fun K hK => ?_
    repeat' ((refine al_r rfl fun K' hK' => ?_); (repeat (first | (simp only [go_sem, simprocAttr]) | refine AAp.grow ?_)); ((first | refine hK' _ _ ?_ | refine ⟨?_, ?_, hK' _ _ ?_⟩) <;> clear hK' K' <;> (first | (show alist _ _ _ _ _ _; skip) | assumption | omega)))
    (refine al_nil ?_; (simp only [go_sem, simprocAttr]); refine hK _ ?_; clear hK K)
    refine awp_ret (hR _ _ [1] (.inl rfl) rfl (by simp) ?_)
    refine ⟨?_, ?_⟩ <;> simp only [go_sem, simprocAttr]

end Go.Proofs.Ytagphggcdmjlpaa.B

/- Lists of numbers that keep what was handed in: four objects, five. No program is named here. -/
namespace Go.Ab
theorem kept4 {ids : List Nat} {n b c : Nat} (h : ids = [0, 1, n, 3, c]) (hb : b ≤ n) : ∀ k, k < 4 → ids[k]? = some k ∨ ∃ j, ids[k]? = some j ∧ b ≤ j := by
  subst h
  intro k hk
  match k with
  | 0 => exact .inl rfl
  | 1 => exact .inl rfl
  | 2 => exact .inr ⟨n, rfl, hb⟩
  | 3 => exact .inl rfl

theorem kept0123 {l : List Nat} : ∀ k, k < 4 → (0 :: 1 :: 2 :: 3 :: l)[k]? = some k := by
  intro k hk
  match k with
  | 0 => rfl
  | 1 => rfl
  | 2 => rfl
  | 3 => rfl
end Go.Ab

/- The text store's Hold and Let, their store an own row: contracts. -/
namespace Go.Proofs.Ytagphggcdmjlpaa.B
open Go.Ab Go.Proofs.Ytagphggcdmjlpaa.T

theorem lt_get {α : Type} {l : List α} {i : Nat} (h : i < l.length) : ∃ x, l[i]? = some x := ⟨_, List.getElem?_eq_getElem h⟩

/-- What Hold and Let answer. -/
def StoreR {α : Type} (f : α → D) (r : D) (obs' : List Ob) : Prop := ∃ (L : List Blob) (k : α) (e : Int), r = .tup [.ref 0 0 L.length, f k, iD e] ∧ obs' = [.row 2 (L.map Blob.row)] ∧ L.length ≤ 61


theorem holdB (ls : List Blob) (text : ByteArray) (e f1 f2 : Int) (hck : ACallP Try.prog 74 [blobs ls] (iD e)) (hs : e = 0 → ls.length ≤ 60) (hf : ACallP Try.prog 75 [blobs ls, sD text] (iD f1)) (hz : ACallP Try.prog 76 [blobs ls, .fn 77 []] (iD f2))
    (h1 : f1 = -1 ∨ ∃ i : Nat, i < ls.length ∧ f1 = i) (h2 : f2 = -1 ∨ ∃ i : Nat, i < ls.length ∧ f2 = i) (hcl : ACalls Try.prog 44 [blobs ls] [] (fun r obs => r = .ref 0 0 ls.length ∧ obs = [.row 2 (ls.map Blob.row)])) :
    ACalls Try.prog 49 [blobs ls, sD text] [] (StoreR iD) := by
  have htk : List.take ls.length (ls.map Blob.row) = ls.map Blob.row := List.take_of_length_le (by simp)
  refine acallm_fn [4, 5, 6] Try.func49 rfl rfl Try.ntmps49 (by simp) (by simp) fun R hR => ?_
  (refine awp_reg_seq [0, 1] fun K hK => ?_; (repeat' ((refine al_r rfl fun K' hK' => ?_); (repeat (simp only [go_sem, simprocAttr, List.length_map])); ((refine hK' _ _ ?_) <;> clear hK' K'))); all_goals (refine al_nil ?_; (simp only [go_sem, simprocAttr, List.length_map]); refine hK _ ?_; clear hK K))
  (refine awp_reg_seq [0, 1, 7] fun K hK => ?_; (repeat' ((refine al_r rfl fun K' hK' => ?_); (repeat (simp only [go_sem, simprocAttr, List.length_map])); (first | ((refine hK' _ _ ?_) <;> clear hK' K') | ((show AC _ _ (D.fn 74 _) _ _); refine acall_p (f := 74) (e := rfl) (hr := rfl) (k := hK' _ _ ?_) (hc := Try.call74) (h := hck); clear hK' K')))); all_goals (refine al_nil ?_; (simp only [go_sem, simprocAttr, List.length_map]); refine hK _ ?_; clear hK K))
  refine awp_seq_k fun K hK => ?_
  refine awp_block ?_
  (refine awp_reg_seq [0, 1, 7, 12] fun K hK => ?_; (repeat' ((refine al_r rfl fun K' hK' => ?_); (repeat (simp only [go_sem, simprocAttr, List.length_map])); ((refine hK' _ _ ?_) <;> clear hK' K'))); all_goals (refine al_nil ?_; (simp only [go_sem, simprocAttr, List.length_map]); refine hK _ ?_; clear hK K))
  refine awp_if (e != 0) rfl (fun hc => ?_) (fun hc => ?_)
  · (refine awp_reg_seq [4, 5, 6] fun K hK => ?_; (repeat' ((refine al_r rfl fun K' hK' => ?_); (repeat (simp only [go_sem, simprocAttr, List.length_map])); ((refine hK' _ _ ?_) <;> clear hK' K'))); all_goals (refine al_nil ?_; (simp only [go_sem, simprocAttr, List.length_map]); refine hK _ ?_; clear hK K))
    refine awp_born 4 2 rfl ?_
    refine awp_ret (hR _ _ [0] (.inl rfl) rfl (by decide) (by simp only [List.length_cons, List.length_nil]; decide) ?_)
    refine ⟨[], 0, e, ?_, ?_, by simp⟩
    · (simp only [go_sem, simprocAttr, List.length_map]; try rfl)
    · (simp only [go_sem, simprocAttr, List.length_map]; try rfl)
  · have h60 := hs (by simpa using hc)
    (refine awp_reg_seq [0, 1, 16] fun K hK => ?_; (repeat' ((refine al_r rfl fun K' hK' => ?_); (repeat (simp only [go_sem, simprocAttr, List.length_map])); ((first | refine hK' _ _ ?_ | refine ⟨?_, hK' _ _ ?_⟩) <;> clear hK' K' <;> (first | (show alist _ _ _ _ _ _; skip) | (simp; done))))); all_goals (refine al_nil ?_; (simp only [go_sem, simprocAttr, List.length_map]); refine hK _ ?_; clear hK K))
    refine awp_if (decide ((text.size : Int) > 64)) rfl (fun hc => ?_) (fun hc => ?_)
    · (refine awp_reg_seq [4, 5, 6] fun K hK => ?_; (repeat' ((refine al_r rfl fun K' hK' => ?_); (repeat (simp only [go_sem, simprocAttr, List.length_map])); ((refine hK' _ _ ?_) <;> clear hK' K'))); all_goals (refine al_nil ?_; (simp only [go_sem, simprocAttr, List.length_map]); refine hK _ ?_; clear hK K))
      refine awp_born 4 2 rfl ?_
      refine awp_ret (hR _ _ [0] (.inl rfl) rfl (by decide) (by simp only [List.length_cons, List.length_nil]; decide) ?_)
      refine ⟨[], 0, 2, ?_, ?_, by simp⟩
      · (simp only [go_sem, simprocAttr, List.length_map]; try rfl)
      · (simp only [go_sem, simprocAttr, List.length_map]; try rfl)
    · refine awp_skip ?_
      refine hK _ ?_; clear hK K
      (refine awp_reg_seq [0, 1, 8] fun K hK => ?_; (repeat' ((refine al_r rfl fun K' hK' => ?_); (repeat (simp only [go_sem, simprocAttr, List.length_map])); (first | ((refine hK' _ _ ?_) <;> clear hK' K') | ((show AC _ _ (D.fn 75 _) _ _); refine acall_p (f := 75) (e := rfl) (hr := rfl) (k := hK' _ _ ?_) (hc := Try.call75) (h := hf); clear hK' K')))); all_goals (refine al_nil ?_; (simp only [go_sem, simprocAttr, List.length_map]); refine hK _ ?_; clear hK K))
      refine awp_seq_kc fun K hK hcut => ?_
      have key : ∀ k : Int, (k = -1 ∨ ∃ i : Nat, i < ls.length ∧ k = i) → K ⟨ofL [(0, blobs ls), (1, sD text), (8, iD k)], [], 0⟩ := by
        clear hcut
        intro k hk
        refine hK _ ?_; clear hK K
        (refine awp_reg_seq [1, 8, 9] fun K hK => ?_; (repeat' ((refine al_r rfl fun K' hK' => ?_); (repeat (simp only [go_sem, simprocAttr, List.length_map])); (first | ((refine hK' _ _ ?_) <;> clear hK' K') | ((show AC _ _ (D.fn 44 _) _ _); refine acall_new (f := 44) Try.call44 hcl rfl ?_; rintro r obs' ⟨rfl, rfl⟩; (simp only [go_sem, simprocAttr, List.length_map]); refine hK' _ _ ?_; clear hK' K')))); all_goals (refine al_nil ?_; (simp only [go_sem, simprocAttr, List.length_map]); refine hK _ ?_; clear hK K))
        refine awp_seq_kc fun K hK hcut => ?_
        have key : ∀ (j : Nat) (L : List Blob), j < L.length → L.length ≤ 61 → K ⟨ofL [(1, sD text), (8, iD j), (9, .ref 0 0 L.length)], [.row 2 (L.map Blob.row)], 0⟩ := by
          clear hcut
          intro j L hj hL
          obtain ⟨b, hbj⟩ := lt_get hj
          have hjl : (j : Int) < (L.length : Int) := by omega
          have hjn : (0 : Int) ≤ (j : Int) := Int.natCast_nonneg j
          obtain ⟨X, hX⟩ : ∃ X, ((j : Int) == 60) = X := ⟨_, rfl⟩
          obtain ⟨Y, hY⟩ : ∃ Y, (b.many == 1000) = Y := ⟨_, rfl⟩

          refine hK _ ?_; clear hK K
          refine awp_seq_k fun K hK => ?_
          refine awp_reg_tov [1, 8, 9, 46] [(1, sD text), (8, iD j), (9, .ref 0 0 L.length), (46, bD (X || Y))] (h := ?_) (k := ?_)
          · cases X <;> cases Y
            all_goals ((repeat' (first | ((first | refine al_r rfl fun K' hK' => ?_ | refine al_t rfl rfl fun K' hK' => ?_); (repeat (simp only [go_sem, simprocAttr, List.length_map, hbj, hjl, hjn, hX, hY, Int.toNat_natCast, List.getElem?_map, Option.map_some, Blob.row])); ((refine hK' _ _ ?_) <;> clear hK' K')) | refine al_e rfl rfl ?_)); all_goals (refine al_nil ?_; (simp only [go_sem, simprocAttr, List.length_map, hbj, hjl, hjn, hX, hY, Int.toNat_natCast, List.getElem?_map, Option.map_some, Blob.row, *, Bool.and_true, Bool.and_false, Bool.true_and, Bool.false_and, Bool.or_true, Bool.true_or, Bool.or_false, Bool.false_or, Bool.not_true, Bool.not_false, Bool.false_eq_true]; done)))
          (intro K hK; (simp only [go_sem, simprocAttr, List.length_map, hbj, hjl, hjn, hX, hY, Int.toNat_natCast, List.getElem?_map, Option.map_some, Blob.row]); refine hK _ ?_; clear hK K)
          refine awp_if (_) rfl (fun hc => ?_) (fun hc => ?_)
          · (refine awp_reg_seq [4, 5, 6] fun K hK => ?_; (repeat' ((refine al_r rfl fun K' hK' => ?_); (repeat (simp only [go_sem, simprocAttr, List.length_map, hbj, hjl, hjn, hX, hY, Int.toNat_natCast, List.getElem?_map, Option.map_some, Blob.row])); ((refine hK' _ _ ?_) <;> clear hK' K'))); all_goals (refine al_nil ?_; (simp only [go_sem, simprocAttr, List.length_map, hbj, hjl, hjn, hX, hY, Int.toNat_natCast, List.getElem?_map, Option.map_some, Blob.row]); refine hK _ ?_; clear hK K))
            refine awp_born 4 2 rfl ?_
            refine awp_ret (hR _ _ [1] (.inl rfl) rfl (by decide) (by simp only [List.length_cons, List.length_nil]; decide) ?_)
            refine ⟨[], 0, 6, ?_, ?_, by simp⟩
            · (simp only [go_sem, simprocAttr, List.length_map, hbj, hjl, hjn, hX, hY, Int.toNat_natCast, List.getElem?_map, Option.map_some, Blob.row]; try rfl)
            · (simp only [go_sem, simprocAttr, List.length_map, hbj, hjl, hjn, hX, hY, Int.toNat_natCast, List.getElem?_map, Option.map_some, Blob.row]; try rfl)
          · refine awp_skip ?_
            refine hK _ ?_; clear hK K
            (refine awp_reg_seq [8, 9] fun K hK => ?_; (repeat' ((first | refine al_r rfl fun K' hK' => ?_ | refine al_d rfl fun K' hK' => ?_); (repeat (first | (simp only [go_sem, simprocAttr, List.length_map, hbj, hjl, hjn, hX, hY, Int.toNat_natCast, List.getElem?_map, Option.map_some, Blob.row]) | refine AS.mk ?_)); ((first | refine hK' _ _ ?_ | refine ⟨?_, hK' _ _ ?_⟩) <;> clear hK' K' <;> (first | (show alist _ _ _ _ _ _; skip) | (simp; done))))); all_goals (refine al_nil ?_; (simp only [go_sem, simprocAttr, List.length_map, hbj, hjl, hjn, hX, hY, Int.toNat_natCast, List.getElem?_map, Option.map_some, Blob.row]); refine hK _ ?_; clear hK K))
            (refine awp_reg_seq [4, 5, 6] fun K hK => ?_; (repeat' ((refine al_r rfl fun K' hK' => ?_); (repeat (simp only [go_sem, simprocAttr, List.length_map, hbj, hjl, hjn, hX, hY, Int.toNat_natCast, List.getElem?_map, Option.map_some, Blob.row])); ((refine hK' _ _ ?_) <;> clear hK' K'))); all_goals (refine al_nil ?_; (simp only [go_sem, simprocAttr, List.length_map, hbj, hjl, hjn, hX, hY, Int.toNat_natCast, List.getElem?_map, Option.map_some, Blob.row]); refine hK _ ?_; clear hK K))
            refine awp_ret (hR _ _ [0] (.inl rfl) rfl (by decide) (by simp only [List.length_cons, List.length_nil]; decide) ?_)
            refine ⟨L.set j ⟨text, IntKind.i64.wrap (b.many + 1)⟩, j, 0, ?_, ?_, by simpa using hL⟩
            · simp only [go_sem, simprocAttr, List.length_map, hbj, hjl, hjn, hX, hY, Int.toNat_natCast, List.getElem?_map, Option.map_some, Blob.row, List.length_set]
            · (simp only [go_sem, simprocAttr, List.length_map, hbj, hjl, hjn, hX, hY, Int.toNat_natCast, List.getElem?_map, Option.map_some, Blob.row]; rw [List.map_set]; rfl)

        (refine awp_reg_seq [1, 8, 9, 30] fun K hK => ?_; (repeat' ((refine al_r rfl fun K' hK' => ?_); (repeat (simp only [go_sem, simprocAttr, List.length_map, htk])); ((refine hK' _ _ ?_) <;> clear hK' K'))); all_goals (refine al_nil ?_; (simp only [go_sem, simprocAttr, List.length_map, htk]); refine hK _ ?_; clear hK K))
        refine awp_if (decide (k < 0)) rfl (fun hc => ?_) (fun hc => ?_)
        · (refine awp_reg_seq [1, 8, 9] fun K hK => ?_; (repeat' ((refine al_r rfl fun K' hK' => ?_); (repeat (simp only [go_sem, simprocAttr, List.length_map, htk])); ((first | refine hK' _ _ ?_ | refine ⟨?_, hK' _ _ ?_⟩) <;> clear hK' K' <;> (first | (show alist _ _ _ _ _ _; skip) | (intro s hs; cases hs; done))))); all_goals (refine al_nil ?_; (simp only [go_sem, simprocAttr, List.length_map, htk]); refine hK _ ?_; clear hK K))
          (refine awp_reg_end [1, 8, 9] fun K hK => ?_; (repeat' ((refine al_r rfl fun K' hK' => ?_); (repeat (first | (simp only [go_sem, simprocAttr, List.length_map, htk]) | refine AAp.grow ?_)); ((first | refine hK' _ _ ?_ | refine ⟨?_, ?_, ?_, hK' _ _ ?_⟩) <;> clear hK' K' <;> (first | (show alist _ _ _ _ _ _; skip) | (simp; done) | omega)))); all_goals (refine al_nil ?_; (simp only [go_sem, simprocAttr, List.length_map, htk]); refine hK _ ?_; clear hK K))
          refine hcut _ [1, 8, 9] (if decide (k < 0) = true then [2] else [0]) (by split <;> decide) (by intro q hq; exact absurd hq (Nat.not_lt_zero q)) ?_
          first
          | (rw [if_pos hc]
             simp only [go_sem, simprocAttr, List.length_map, htk]
             have kk := key ls.length (ls ++ [⟨ByteArray.empty, 0⟩]) (by simp) (by simp; omega)
             rw [List.length_append, List.map_append] at kk
             exact kk)
          | (rw [if_neg (by rw [hc]; exact Bool.false_ne_true)]
             simp only [go_sem, simprocAttr, List.length_map, htk]
             rcases hk with rfl | ⟨i, hi, rfl⟩
             · simp at hc
             · exact key i ls hi (by omega))
        · refine awp_skip ?_
          refine hcut _ [1, 8, 9] (if decide (k < 0) = true then [2] else [0]) (by split <;> decide) (by intro q hq; exact absurd hq (Nat.not_lt_zero q)) ?_
          first
          | (rw [if_pos hc]
             simp only [go_sem, simprocAttr, List.length_map, htk]
             have kk := key ls.length (ls ++ [⟨ByteArray.empty, 0⟩]) (by simp) (by simp; omega)
             rw [List.length_append, List.map_append] at kk
             exact kk)
          | (rw [if_neg (by rw [hc]; exact Bool.false_ne_true)]
             simp only [go_sem, simprocAttr, List.length_map, htk]
             rcases hk with rfl | ⟨i, hi, rfl⟩
             · simp at hc
             · exact key i ls hi (by omega))
      (refine awp_reg_seq [0, 1, 8, 24] fun K hK => ?_; (repeat' ((refine al_r rfl fun K' hK' => ?_); (repeat (simp only [go_sem, simprocAttr, List.length_map, htk])); ((refine hK' _ _ ?_) <;> clear hK' K'))); all_goals (refine al_nil ?_; (simp only [go_sem, simprocAttr, List.length_map, htk]); refine hK _ ?_; clear hK K))
      refine awp_if (_) rfl (fun hc => ?_) (fun hc => ?_)
      · (refine awp_reg_end [0, 1, 8] fun K hK => ?_; (repeat' ((refine al_r rfl fun K' hK' => ?_); (repeat (simp only [go_sem, simprocAttr, List.length_map, htk])); (first | ((refine hK' _ _ ?_) <;> clear hK' K') | ((show AC _ _ (D.fn 76 _) _ _); refine acall_p (f := 76) (e := rfl) (hr := rfl) (k := hK' _ _ ?_) (hc := Try.call76) (h := hz); clear hK' K')))); all_goals (refine al_nil ?_; (simp only [go_sem, simprocAttr, List.length_map, htk]); refine hK _ ?_; clear hK K))
        refine hcut _ [0, 1, 8] [] (by decide) (by intro q hq; exact absurd hq (Nat.not_lt_zero q)) ?_
        simp only [go_sem, simprocAttr, List.length_map, htk]
        (exact key _ h2)
      · refine awp_skip ?_
        refine hcut _ [0, 1, 8] [] (by decide) (by intro q hq; exact absurd hq (Nat.not_lt_zero q)) ?_
        simp only [go_sem, simprocAttr, List.length_map, htk]
        (exact key _ h1)

theorem range_of (p : Blob → Bool) (l : List Blob) : firstI p l = -1 ∨ ∃ i : Nat, i < l.length ∧ firstI p l = i := by
  rcases firstI_range p l with h | ⟨i, x, h1, h2, _⟩
  · exact .inl h
  · exact .inr ⟨i, (List.getElem?_eq_some_iff.1 h2).1, h1⟩

theorem rows2 (ls : List Blob) : ∀ x, x ∈ ls.map Blob.row → x.length = 2 := fun x hx => by
  obtain ⟨b, _, rfl⟩ := List.mem_map.1 hx; rfl

theorem holdW (ls : List Blob) (text : ByteArray) (hlen : ls.length ≤ maxLen) (h24 : ls.length ≤ 5864062014805) : ACalls Try.prog 49 [blobs ls, sD text] [] (StoreR iD) := by
  have hz := (indexBlob ls hlen 77 [] (fun b => b.many == 0) [] [] (by simp) (by simp) (by simp) rfl rfl rfl (by simp) (by simp) Try.call77 fun n _ => hold1 n).p
  have hcl := cloneS (ls.map Blob.row) (rows2 ls) (by simpa using h24)
  rw [List.length_map] at hcl
  exact holdB ls text _ _ _ (check ls hlen) scan_bound (find ls text hlen) hz (range_of _ _) (range_of _ _) hcl

theorem set_rowB (L : List Blob) (i : Nat) (t : ByteArray) (m : Int) : ((L.map Blob.row).set i [PV.lit (Value.string t), PV.lit (Value.int .i64 m)]) = (L.set i ⟨t, m⟩).map Blob.row := by
  rw [List.map_set]; rfl


theorem letB (ls : List Blob) (k e : Int) (hck : ACallP Try.prog 78 [blobs ls, iD k] (iD e)) (hz : e = 0 → ls.length ≤ 60 ∧ ∃ (i : Nat) (b : Blob), k = i ∧ ls[i]? = some b) (hcl : ACalls Try.prog 44 [blobs ls] [] (fun r obs => r = .ref 0 0 ls.length ∧ obs = [.row 2 (ls.map Blob.row)])) :
    ACalls Try.prog 50 [blobs ls, iD k] [] (StoreR bD) := by
  refine acallm_fn [4, 5, 6] Try.func50 rfl rfl Try.ntmps50 (by simp) (by simp) fun R hR => ?_
  (refine awp_reg_seq [0, 1] fun K hK => ?_; (repeat' ((refine al_r rfl fun K' hK' => ?_); (repeat (simp only [go_sem, simprocAttr, List.length_map])); ((refine hK' _ _ ?_) <;> clear hK' K'))); all_goals (refine al_nil ?_; (simp only [go_sem, simprocAttr, List.length_map]); refine hK _ ?_; clear hK K))
  refine awp_seq_k fun K hK => ?_
  (refine awp_reg_seq [0, 1, 7] fun K hK => ?_; (repeat' ((refine al_r rfl fun K' hK' => ?_); (repeat (simp only [go_sem, simprocAttr, List.length_map])); (first | ((refine hK' _ _ ?_) <;> clear hK' K') | ((show AC _ _ (D.fn 78 _) _ _); refine acall_p (f := 78) (e := rfl) (hr := rfl) (k := hK' _ _ ?_) (hc := Try.call78) (h := hck); clear hK' K')))); all_goals (refine al_nil ?_; (simp only [go_sem, simprocAttr, List.length_map]); refine hK _ ?_; clear hK K))
  (refine awp_reg_seq [0, 1, 7, 13] fun K hK => ?_; (repeat' ((refine al_r rfl fun K' hK' => ?_); (repeat (simp only [go_sem, simprocAttr, List.length_map])); ((refine hK' _ _ ?_) <;> clear hK' K'))); all_goals (refine al_nil ?_; (simp only [go_sem, simprocAttr, List.length_map]); refine hK _ ?_; clear hK K))
  refine awp_if (e != 0) rfl (fun hc => ?_) (fun hc => ?_)
  · (refine awp_reg_seq [4, 5, 6] fun K hK => ?_; (repeat' ((refine al_r rfl fun K' hK' => ?_); (repeat (simp only [go_sem, simprocAttr, List.length_map])); ((refine hK' _ _ ?_) <;> clear hK' K'))); all_goals (refine al_nil ?_; (simp only [go_sem, simprocAttr, List.length_map]); refine hK _ ?_; clear hK K))
    refine awp_born 4 2 rfl ?_
    refine awp_ret (hR _ _ [0] (.inl rfl) rfl (by decide) (by simp only [List.length_cons, List.length_nil]; decide) ?_)
    refine ⟨[], false, e, ?_, ?_, by simp⟩
    · (simp only [go_sem, simprocAttr, List.length_map]; try rfl)
    · (simp only [go_sem, simprocAttr, List.length_map]; try rfl)
  · obtain ⟨h60, i, b, rfl, hget⟩ := hz (by simpa using hc)
    have hil := (List.getElem?_eq_some_iff.1 hget).1
    have hjl : (i : Int) < (ls.length : Int) := by omega
    have hjn : (0 : Int) ≤ (i : Int) := Int.natCast_nonneg i
    obtain ⟨w, hw⟩ : ∃ w, IntKind.i64.wrap (b.many - 1) = w := ⟨_, rfl⟩
    have hs1 := set_rowB ls i b.text w
    have hL1 : (ls.set i ⟨b.text, w⟩)[i]? = some ⟨b.text, w⟩ := by simp [hil]
    have hs2 := set_rowB (ls.set i ⟨b.text, w⟩) i ByteArray.empty 0

    refine awp_skip ?_
    refine hK _ ?_; clear hK K
    (refine awp_reg_seq [1, 8] fun K hK => ?_; (repeat' ((refine al_r rfl fun K' hK' => ?_); (repeat (simp only [go_sem, simprocAttr, List.length_map, hget, hjl, hjn, hw, hs1, hs2, hL1, hil, List.length_set, Int.toNat_natCast, List.getElem?_map, Option.map_some, Blob.row])); (first | ((refine hK' _ _ ?_) <;> clear hK' K') | ((show AC _ _ (D.fn 44 _) _ _); refine acall_new (f := 44) Try.call44 hcl rfl ?_; rintro r obs' ⟨rfl, rfl⟩; (simp only [go_sem, simprocAttr, List.length_map, hget, hjl, hjn, hw, hs1, hs2, hL1, hil, List.length_set, Int.toNat_natCast, List.getElem?_map, Option.map_some, Blob.row]); refine hK' _ _ ?_; clear hK' K')))); all_goals (refine al_nil ?_; (simp only [go_sem, simprocAttr, List.length_map, hget, hjl, hjn, hw, hs1, hs2, hL1, hil, List.length_set, Int.toNat_natCast, List.getElem?_map, Option.map_some, Blob.row]); refine hK _ ?_; clear hK K))
    refine awp_seq_kc fun K hK hcut => ?_
    have key : ∀ (L : List Blob) (y : Blob), L[i]? = some y → L.length = ls.length → K ⟨ofL [(1, iD i), (8, .ref 0 0 ls.length)], [.row 2 (L.map Blob.row)], 0⟩ := by
      clear hcut
      intro L y hy hL

      refine hK _ ?_; clear hK K
      refine awp_draw_seq (by kernel_rfl) [4, 5, 6] fun K hK => ?_
      ((refine ah_r 0 rfl (by kernel_rfl) rfl fun K' hK' => ?_); (simp only [go_sem, simprocAttr, List.length_map, hy, hjl, hjn, hil, hL, Int.toNat_natCast, List.getElem?_map, Option.map_some, Blob.row]); ((refine hK' _ ?_); clear hK' K'))
      ((refine ah_r 1 rfl (by kernel_rfl) rfl fun K' hK' => ?_); (simp only [go_sem, simprocAttr, List.length_map, hy, hjl, hjn, hil, hL, Int.toNat_natCast, List.getElem?_map, Option.map_some, Blob.row]); ((refine hK' _ ?_); clear hK' K'))
      ((refine ah_r 2 rfl (by kernel_rfl) rfl fun K' hK' => ?_); (simp only [go_sem, simprocAttr, List.length_map, hy, hjl, hjn, hil, hL, Int.toNat_natCast, List.getElem?_map, Option.map_some, Blob.row]); ((refine hK' _ ?_); clear hK' K'))
      ((refine ah_r 3 rfl (by kernel_rfl) rfl fun K' hK' => ?_); (simp only [go_sem, simprocAttr, List.length_map, hy, hjl, hjn, hil, hL, Int.toNat_natCast, List.getElem?_map, Option.map_some, Blob.row]); ((refine hK' _ ?_); clear hK' K'))
      ((refine ah_r 4 rfl (by kernel_rfl) rfl fun K' hK' => ?_); (simp only [go_sem, simprocAttr, List.length_map, hy, hjl, hjn, hil, hL, Int.toNat_natCast, List.getElem?_map, Option.map_some, Blob.row]); ((refine hK' _ ?_); clear hK' K'))
      refine ah_two 5 7 rfl rfl (by kernel_rfl) ?_ ?_
      · ((repeat' ((refine al_r rfl fun K' hK' => ?_); (repeat (simp only [go_sem, simprocAttr, List.length_map, hy, hjl, hjn, hil, hL, Int.toNat_natCast, List.getElem?_map, Option.map_some, Blob.row])); ((refine hK' _ _ ?_) <;> clear hK' K'))); all_goals refine al_nil ?_)
        ((refine ah_r 6 rfl (by kernel_rfl) rfl fun K' hK' => ?_); (simp only [go_sem, simprocAttr, List.length_map, hy, hjl, hjn, hil, hL, Int.toNat_natCast, List.getElem?_map, Option.map_some, Blob.row]); ((refine hK' _ ?_); clear hK' K'))
        ((refine ah_r 7 rfl (by kernel_rfl) rfl fun K' hK' => ?_); (simp only [go_sem, simprocAttr, List.length_map, hy, hjl, hjn, hil, hL, Int.toNat_natCast, List.getElem?_map, Option.map_some, Blob.row]); ((refine hK' _ ?_); clear hK' K'))
        ((refine ah_r 8 rfl (by kernel_rfl) rfl fun K' hK' => ?_); (simp only [go_sem, simprocAttr, List.length_map, hy, hjl, hjn, hil, hL, Int.toNat_natCast, List.getElem?_map, Option.map_some, Blob.row]); ((refine hK' _ ?_); clear hK' K'))
        ((refine ah_r 9 rfl (by kernel_rfl) rfl fun K' hK' => ?_); (simp only [go_sem, simprocAttr, List.length_map, hy, hjl, hjn, hil, hL, Int.toNat_natCast, List.getElem?_map, Option.map_some, Blob.row]); ((refine hK' _ ?_); clear hK' K'))
        (refine ah_done (by kernel_rfl) ?_; (simp only [go_sem, simprocAttr, List.length_map, hy, hjl, hjn, hil, hL, Int.toNat_natCast, List.getElem?_map, Option.map_some, Blob.row]); refine hK _ ?_; clear hK K)
        refine awp_ret (hR _ _ [0] (.inl rfl) rfl (by decide) (by simp only [List.length_cons, List.length_nil]; decide) ?_)
        refine ⟨L, y.many == 0, 0, ?_, ?_, by omega⟩ <;> simp only [go_sem, simprocAttr, List.length_map, hy, hjl, hjn, hil, hL, Int.toNat_natCast, List.getElem?_map, Option.map_some, Blob.row]
      · ((repeat' ((refine al_r rfl fun K' hK' => ?_); (repeat (simp only [go_sem, simprocAttr, List.length_map, hy, hjl, hjn, hil, hL, Int.toNat_natCast, List.getElem?_map, Option.map_some, Blob.row])); ((refine hK' _ _ ?_) <;> clear hK' K'))); all_goals refine al_nil ?_)
        (refine ah_one 5 rfl (by kernel_rfl) ?_; (repeat' ((refine al_r rfl fun K' hK' => ?_); (repeat (simp only [go_sem, simprocAttr, List.length_map, hy, hjl, hjn, hil, hL, Int.toNat_natCast, List.getElem?_map, Option.map_some, Blob.row])); ((refine hK' _ _ ?_) <;> clear hK' K'))); all_goals refine al_nil ?_)
        ((refine ah_r 6 rfl (by kernel_rfl) rfl fun K' hK' => ?_); (simp only [go_sem, simprocAttr, List.length_map, hy, hjl, hjn, hil, hL, Int.toNat_natCast, List.getElem?_map, Option.map_some, Blob.row]); ((refine hK' _ ?_); clear hK' K'))
        ((refine ah_r 8 rfl (by kernel_rfl) rfl fun K' hK' => ?_); (simp only [go_sem, simprocAttr, List.length_map, hy, hjl, hjn, hil, hL, Int.toNat_natCast, List.getElem?_map, Option.map_some, Blob.row]); ((refine hK' _ ?_); clear hK' K'))
        ((refine ah_r 9 rfl (by kernel_rfl) rfl fun K' hK' => ?_); (simp only [go_sem, simprocAttr, List.length_map, hy, hjl, hjn, hil, hL, Int.toNat_natCast, List.getElem?_map, Option.map_some, Blob.row]); ((refine hK' _ ?_); clear hK' K'))
        (refine ah_done (by kernel_rfl) ?_; (simp only [go_sem, simprocAttr, List.length_map, hy, hjl, hjn, hil, hL, Int.toNat_natCast, List.getElem?_map, Option.map_some, Blob.row]); refine hK _ ?_; clear hK K)
        refine awp_ret (hR _ _ [0] (.inl rfl) rfl (by decide) (by simp only [List.length_cons, List.length_nil]; decide) ?_)
        refine ⟨L, y.many == 0, 0, ?_, ?_, by omega⟩ <;> simp only [go_sem, simprocAttr, List.length_map, hy, hjl, hjn, hil, hL, Int.toNat_natCast, List.getElem?_map, Option.map_some, Blob.row]
      skip

    (refine awp_reg_seq [1, 8] fun K hK => ?_; (repeat' ((first | refine al_r rfl fun K' hK' => ?_ | refine al_d rfl fun K' hK' => ?_); (repeat (first | (simp only [go_sem, simprocAttr, List.length_map, hget, hjl, hjn, hw, hs1, hs2, hL1, hil, List.length_set, Int.toNat_natCast, List.getElem?_map, Option.map_some, Blob.row]) | refine AS.mk ?_)); ((first | refine hK' _ _ ?_ | refine ⟨?_, hK' _ _ ?_⟩) <;> clear hK' K' <;> (first | (show alist _ _ _ _ _ _; skip) | (simp; done))))); all_goals (refine al_nil ?_; (simp only [go_sem, simprocAttr, List.length_map, hget, hjl, hjn, hw, hs1, hs2, hL1, hil, List.length_set, Int.toNat_natCast, List.getElem?_map, Option.map_some, Blob.row]); refine hK _ ?_; clear hK K))
    (refine awp_reg_seq [1, 8, 30] fun K hK => ?_; (repeat' ((refine al_r rfl fun K' hK' => ?_); (repeat (simp only [go_sem, simprocAttr, List.length_map, hget, hjl, hjn, hw, hs1, hs2, hL1, hil, List.length_set, Int.toNat_natCast, List.getElem?_map, Option.map_some, Blob.row])); ((refine hK' _ _ ?_) <;> clear hK' K'))); all_goals (refine al_nil ?_; (simp only [go_sem, simprocAttr, List.length_map, hget, hjl, hjn, hw, hs1, hs2, hL1, hil, List.length_set, Int.toNat_natCast, List.getElem?_map, Option.map_some, Blob.row]); refine hK _ ?_; clear hK K))
    refine awp_if (w == 0) rfl (fun hc => ?_) (fun hc => ?_)
    · (refine awp_reg_end [1, 8] fun K hK => ?_; (repeat' ((first | refine al_r rfl fun K' hK' => ?_ | refine al_d rfl fun K' hK' => ?_); (repeat (first | (simp only [go_sem, simprocAttr, List.length_map, hget, hjl, hjn, hw, hs1, hs2, hL1, hil, List.length_set, Int.toNat_natCast, List.getElem?_map, Option.map_some, Blob.row]) | refine AS.mk ?_)); ((first | refine hK' _ _ ?_ | refine ⟨?_, hK' _ _ ?_⟩) <;> clear hK' K' <;> (first | (show alist _ _ _ _ _ _; skip) | (simp; done))))); all_goals (refine al_nil ?_; (simp only [go_sem, simprocAttr, List.length_map, hget, hjl, hjn, hw, hs1, hs2, hL1, hil, List.length_set, Int.toNat_natCast, List.getElem?_map, Option.map_some, Blob.row]); refine hK _ ?_; clear hK K))
      refine hcut _ [1, 8] [0] (by decide) (by intro q hq; exact absurd hq (Nat.not_lt_zero q)) ?_
      simp only [go_sem, simprocAttr, List.length_map, hget, hjl, hjn, hw, hs1, hs2, hL1, hil, List.length_set, Int.toNat_natCast, List.getElem?_map, Option.map_some, Blob.row]
      (exact key ((ls.set i ⟨b.text, w⟩).set i ⟨ByteArray.empty, 0⟩) ⟨ByteArray.empty, 0⟩ (by simp [hil]) (by simp))
    · refine awp_skip ?_
      refine hcut _ [1, 8] [0] (by decide) (by intro q hq; exact absurd hq (Nat.not_lt_zero q)) ?_
      simp only [go_sem, simprocAttr, List.length_map, hget, hjl, hjn, hw, hs1, hs2, hL1, hil, List.length_set, Int.toNat_natCast, List.getElem?_map, Option.map_some, Blob.row]
      (exact key (ls.set i ⟨b.text, w⟩) ⟨b.text, w⟩ (by simp [hil]) (by simp))

theorem letW (ls : List Blob) (k : Int) (hlen : ls.length ≤ maxLen) (h24 : ls.length ≤ 5864062014805) : ACalls Try.prog 50 [blobs ls, iD k] [] (StoreR bD) := by
  have hcl := cloneS (ls.map Blob.row) (rows2 ls) (by simpa using h24)
  rw [List.length_map] at hcl
  refine letB ls k _ (held ls k hlen) (fun h => ?_) hcl
  obtain ⟨h1, i, b, h2, h3, _⟩ := held_zero h
  exact ⟨scan_bound h1, i, b, h2, h3⟩
end Go.Proofs.Ytagphggcdmjlpaa.B

/- HeapOwn's closure: it says true of what is the same; contracts. -/
namespace Go.Proofs.Ytagphggcdmjlpaa.B
open Go.Ab Go.Proofs.Ytagphggcdmjlpaa.T Go.Proofs.Ytagphggcdmjlpaa.P

def eqB (a b : Blob) : Bool := (a.text.toList == b.text.toList) && (a.many == b.many)


theorem equalBl (a b : List Blob) (ha : a.length ≤ maxLen) : ACallP Try.prog 47 [blobs a, blobs b] (bD (listEq eqB a b)) := by
  refine acallp_fn [4] Try.func47 rfl rfl Try.ntmps47 (by simp) fun R hR => ?_
  (refine awp_reg_seq [0, 1] fun K hK => ?_; (repeat' ((refine al_r rfl fun K' hK' => ?_); (repeat (simp only [go_sem, simprocAttr, List.length_map])); ((refine hK' _ _ ?_) <;> clear hK' K'))); all_goals (refine al_nil ?_; (simp only [go_sem, simprocAttr, List.length_map]); refine hK _ ?_; clear hK K))
  refine awp_seq_k fun K hK => ?_
  (refine awp_reg_seq [0, 1, 10] fun K hK => ?_; (repeat' ((refine al_r rfl fun K' hK' => ?_); (repeat (simp only [go_sem, simprocAttr, List.length_map])); ((first | refine hK' _ _ ?_ | refine ⟨?_, hK' _ _ ?_⟩) <;> clear hK' K' <;> (first | (show alist _ _ _ _ _ _; skip) | (intro s hs; cases hs; done))))); all_goals (refine al_nil ?_; (simp only [go_sem, simprocAttr, List.length_map]); refine hK _ ?_; clear hK K))
  refine awp_if (_) rfl (fun hc => ?_) (fun hc => ?_)
  · have hl : a.length ≠ b.length := by
      intro e; rw [e] at hc; simp at hc
    rw [listEq_len hl] at hR
    (refine awp_reg_seq [4] fun K hK => ?_; (repeat' ((refine al_r rfl fun K' hK' => ?_); (repeat (simp only [go_sem, simprocAttr, List.length_map])); ((refine hK' _ _ ?_) <;> clear hK' K'))); all_goals (refine al_nil ?_; (simp only [go_sem, simprocAttr, List.length_map]); refine hK _ ?_; clear hK K))
    refine awp_ret ?_; (refine hR _ _ (.inl rfl) rfl ?_)
    simp only [go_sem, simprocAttr, List.length_map]
  · have hl : a.length = b.length := by
      have : ((a.length : Int) != b.length) = false := hc
      simp at this; omega
    refine awp_skip ?_
    refine hK _ ?_; clear hK K
    refine awp_seq_k fun K hK => ?_
    (refine awp_reg_seq [0, 1, 12, 13] fun K hK => ?_; (repeat' ((refine al_r rfl fun K' hK' => ?_); (repeat (simp only [go_sem, simprocAttr, List.length_map])); ((first | refine hK' _ _ ?_ | refine ⟨?_, hK' _ _ ?_⟩) <;> clear hK' K' <;> (first | (show alist _ _ _ _ _ _; skip) | (intro s hs; cases hs; done))))); all_goals (refine al_nil ?_; (simp only [go_sem, simprocAttr, List.length_map]); refine hK _ ?_; clear hK K))
    refine awp_block ?_
    refine awp_loop (fun m s => ∃ i : Nat, i ≤ a.length ∧ m = a.length - i ∧ (∀ (j : Nat) x y, j < i → a[j]? = some x → b[j]? = some y → eqB x y = true) ∧ s = ⟨ofL [(0, blobs a), (1, blobs b), (12, iD a.length), (13, iD i)], [], 0⟩) ⟨_, 0, Nat.zero_le _, rfl, fun j _ _ hj => absurd hj (by omega), rfl⟩ ?_
    rintro m s ⟨i, hi, rfl, hbefore, rfl⟩
    (refine awp_reg_seq [0, 1, 12, 13, 14] fun K hK => ?_; (repeat' ((refine al_r rfl fun K' hK' => ?_); (repeat (simp only [go_sem, simprocAttr, List.length_map])); ((refine hK' _ _ ?_) <;> clear hK' K'))); all_goals (refine al_nil ?_; (simp only [go_sem, simprocAttr, List.length_map]); refine hK _ ?_; clear hK K))
    refine awp_seq_k fun K hK => ?_
    refine awp_if (decide ((i : Int) < a.length)) rfl (fun hc => ?_) (fun hc => ?_)
    · refine awp_skip ?_
      refine hK _ ?_; clear hK K
      have hi2 : i < a.length := by simpa using hc
      obtain ⟨x, hx⟩ := get_of_lt hi2
      obtain ⟨y, hy⟩ := get_of_lt (l := b) (i := i) (by omega)
      have hnn : (0 : Int) ≤ (i : Int) := Int.natCast_nonneg i

      refine awp_seq_k fun K hK => ?_
      refine awp_block ?_
      (refine awp_reg_seq [0, 1, 5, 12, 13] fun K hK => ?_; (repeat' ((refine al_r rfl fun K' hK' => ?_); (repeat (simp only [go_sem, simprocAttr, hx, hy, hnn, List.length_map, List.getElem?_map, Int.toNat_natCast, Option.map_some, Blob.row, eqB])); ((refine hK' _ _ ?_) <;> clear hK' K'))); all_goals (refine al_nil ?_; (simp only [go_sem, simprocAttr, hx, hy, hnn, List.length_map, List.getElem?_map, Int.toNat_natCast, Option.map_some, Blob.row, eqB]); refine hK _ ?_; clear hK K))
      refine awp_draw_seq (by kernel_rfl) [0, 1, 12, 13, 24] fun K hK => ?_
      ((refine ah_r 0 rfl (by kernel_rfl) rfl fun K' hK' => ?_); (simp only [go_sem, simprocAttr, hx, hy, hnn, List.length_map, List.getElem?_map, Int.toNat_natCast, Option.map_some, Blob.row, eqB]); ((refine hK' _ ?_); clear hK' K'))
      ((refine ah_r 1 rfl (by kernel_rfl) rfl fun K' hK' => ?_); (simp only [go_sem, simprocAttr, hx, hy, hnn, List.length_map, List.getElem?_map, Int.toNat_natCast, Option.map_some, Blob.row, eqB]); ((refine hK' _ ?_); clear hK' K'))
      ((refine ah_r 2 rfl (by kernel_rfl) rfl fun K' hK' => ?_); (simp only [go_sem, simprocAttr, hx, hy, hnn, List.length_map, List.getElem?_map, Int.toNat_natCast, Option.map_some, Blob.row, eqB]); ((refine hK' _ ?_); clear hK' K'))
      ((refine ah_r 3 rfl (by kernel_rfl) rfl fun K' hK' => ?_); (simp only [go_sem, simprocAttr, hx, hy, hnn, List.length_map, List.getElem?_map, Int.toNat_natCast, Option.map_some, Blob.row, eqB]); ((refine hK' _ ?_); clear hK' K'))
      ((refine ah_r 4 rfl (by kernel_rfl) rfl fun K' hK' => ?_); (simp only [go_sem, simprocAttr, hx, hy, hnn, List.length_map, List.getElem?_map, Int.toNat_natCast, Option.map_some, Blob.row, eqB]); ((refine hK' _ ?_); clear hK' K'))
      ((refine ah_r 5 rfl (by kernel_rfl) rfl fun K' hK' => ?_); (simp only [go_sem, simprocAttr, hx, hy, hnn, List.length_map, List.getElem?_map, Int.toNat_natCast, Option.map_some, Blob.row, eqB]); ((refine hK' _ ?_); clear hK' K'))
      ((refine ah_r 6 rfl (by kernel_rfl) rfl fun K' hK' => ?_); (simp only [go_sem, simprocAttr, hx, hy, hnn, List.length_map, List.getElem?_map, Int.toNat_natCast, Option.map_some, Blob.row, eqB]); ((refine hK' _ ?_); clear hK' K'))
      ((refine ah_r 7 rfl (by kernel_rfl) rfl fun K' hK' => ?_); (simp only [go_sem, simprocAttr, hx, hy, hnn, List.length_map, List.getElem?_map, Int.toNat_natCast, Option.map_some, Blob.row, eqB]); ((refine hK' _ ?_); clear hK' K'))
      ((refine ah_r 8 rfl (by kernel_rfl) rfl fun K' hK' => ?_); (simp only [go_sem, simprocAttr, hx, hy, hnn, List.length_map, List.getElem?_map, Int.toNat_natCast, Option.map_some, Blob.row, eqB]); ((refine hK' _ ?_); clear hK' K'))
      (refine ah_done (by kernel_rfl) ?_; (simp only [go_sem, simprocAttr, hx, hy, hnn, List.length_map, List.getElem?_map, Int.toNat_natCast, Option.map_some, Blob.row, eqB]); refine hK _ ?_; clear hK K)
      refine awp_if (!(eqB x y)) rfl (fun hc => ?_) (fun hc => ?_)
      · have he : eqB x y = false := by simpa using hc
        rw [listEq_not hx hy he] at hR
        (refine awp_reg_seq [4] fun K hK => ?_; (repeat' ((refine al_r rfl fun K' hK' => ?_); (repeat (simp only [go_sem, simprocAttr, hx, hy, hnn, List.length_map, List.getElem?_map, Int.toNat_natCast, Option.map_some, Blob.row, eqB])); ((refine hK' _ _ ?_) <;> clear hK' K'))); all_goals (refine al_nil ?_; (simp only [go_sem, simprocAttr, hx, hy, hnn, List.length_map, List.getElem?_map, Int.toNat_natCast, Option.map_some, Blob.row, eqB]); refine hK _ ?_; clear hK K))
        refine awp_ret ?_; (refine hR _ _ (.inl rfl) rfl ?_)
        simp only [go_sem, simprocAttr, hx, hy, hnn, List.length_map, List.getElem?_map, Int.toNat_natCast, Option.map_some, Blob.row, eqB]
      · have he : eqB x y = true := by simpa using hc
        refine awp_skip ?_
        refine hK _ ?_; clear hK K
        (refine awp_reg_end [0, 1, 12, 13] fun K hK => ?_; (repeat' ((refine al_r rfl fun K' hK' => ?_); (repeat (simp only [go_sem, simprocAttr, hx, hy, hnn, List.length_map, List.getElem?_map, Int.toNat_natCast, Option.map_some, Blob.row, eqB])); ((refine hK' _ _ ?_) <;> clear hK' K'))); all_goals (refine al_nil ?_; (simp only [go_sem, simprocAttr, hx, hy, hnn, List.length_map, List.getElem?_map, Int.toNat_natCast, Option.map_some, Blob.row, eqB]); refine hK _ ?_; clear hK K))
        refine ⟨_, ?_, i + 1, hi2, rfl, ?_, ?_⟩
        · omega
        · intro j u v hj hu hv
          by_cases e : j = i
          · subst e; rw [hx] at hu; rw [hy] at hv; cases hu; cases hv; exact he
          · exact hbefore j u v (by omega) hu hv
        · rw [wrap_next hi2 ha]

    · refine awp_exit ?_
      clear hK
      refine hK _ ?_; clear hK K
      have hi2 : i = a.length := by simp at hc; omega
      have hfin : listEq eqB a b = true := listEq_of hl fun j x y hx hy => hbefore j x y (by have := lt_of_get hx; omega) hx hy
      rw [hfin] at hR
      (refine awp_reg_seq [4] fun K hK => ?_; (repeat' ((refine al_r rfl fun K' hK' => ?_); (repeat (simp only [go_sem, simprocAttr, List.length_map])); ((refine hK' _ _ ?_) <;> clear hK' K'))); all_goals (refine al_nil ?_; (simp only [go_sem, simprocAttr, List.length_map]); refine hK _ ?_; clear hK K))
      refine awp_ret ?_; (refine hR _ _ (.inl rfl) rfl ?_)
      simp only [go_sem, simprocAttr, List.length_map]



theorem equalIn (a b : List Int) (ha : a.length ≤ maxLen) : ACallP Try.prog 48 [ints a, ints b] (bD (listEq eqI a b)) := by
  refine acallp_fn [4] Try.func48 rfl rfl Try.ntmps48 (by simp) fun R hR => ?_
  (refine awp_reg_seq [0, 1] fun K hK => ?_; (repeat' ((refine al_r rfl fun K' hK' => ?_); (repeat (simp only [go_sem, simprocAttr, List.length_map])); ((refine hK' _ _ ?_) <;> clear hK' K'))); all_goals (refine al_nil ?_; (simp only [go_sem, simprocAttr, List.length_map]); refine hK _ ?_; clear hK K))
  refine awp_seq_k fun K hK => ?_
  (refine awp_reg_seq [0, 1, 10] fun K hK => ?_; (repeat' ((refine al_r rfl fun K' hK' => ?_); (repeat (simp only [go_sem, simprocAttr, List.length_map])); ((first | refine hK' _ _ ?_ | refine ⟨?_, hK' _ _ ?_⟩) <;> clear hK' K' <;> (first | (show alist _ _ _ _ _ _; skip) | (intro s hs; cases hs; done))))); all_goals (refine al_nil ?_; (simp only [go_sem, simprocAttr, List.length_map]); refine hK _ ?_; clear hK K))
  refine awp_if (_) rfl (fun hc => ?_) (fun hc => ?_)
  · have hl : a.length ≠ b.length := by
      intro e; rw [e] at hc; simp at hc
    rw [listEq_len hl] at hR
    (refine awp_reg_seq [4] fun K hK => ?_; (repeat' ((refine al_r rfl fun K' hK' => ?_); (repeat (simp only [go_sem, simprocAttr, List.length_map])); ((refine hK' _ _ ?_) <;> clear hK' K'))); all_goals (refine al_nil ?_; (simp only [go_sem, simprocAttr, List.length_map]); refine hK _ ?_; clear hK K))
    refine awp_ret ?_; (refine hR _ _ (.inl rfl) rfl ?_)
    simp only [go_sem, simprocAttr, List.length_map]
  · have hl : a.length = b.length := by
      have : ((a.length : Int) != b.length) = false := hc
      simp at this; omega
    refine awp_skip ?_
    refine hK _ ?_; clear hK K
    refine awp_seq_k fun K hK => ?_
    (refine awp_reg_seq [0, 1, 12, 13] fun K hK => ?_; (repeat' ((refine al_r rfl fun K' hK' => ?_); (repeat (simp only [go_sem, simprocAttr, List.length_map])); ((first | refine hK' _ _ ?_ | refine ⟨?_, hK' _ _ ?_⟩) <;> clear hK' K' <;> (first | (show alist _ _ _ _ _ _; skip) | (intro s hs; cases hs; done))))); all_goals (refine al_nil ?_; (simp only [go_sem, simprocAttr, List.length_map]); refine hK _ ?_; clear hK K))
    refine awp_block ?_
    refine awp_loop (fun m s => ∃ i : Nat, i ≤ a.length ∧ m = a.length - i ∧ (∀ (j : Nat) x y, j < i → a[j]? = some x → b[j]? = some y → eqI x y = true) ∧ s = ⟨ofL [(0, ints a), (1, ints b), (12, iD a.length), (13, iD i)], [], 0⟩) ⟨_, 0, Nat.zero_le _, rfl, fun j _ _ hj => absurd hj (by omega), rfl⟩ ?_
    rintro m s ⟨i, hi, rfl, hbefore, rfl⟩
    (refine awp_reg_seq [0, 1, 12, 13, 14] fun K hK => ?_; (repeat' ((refine al_r rfl fun K' hK' => ?_); (repeat (simp only [go_sem, simprocAttr, List.length_map])); ((refine hK' _ _ ?_) <;> clear hK' K'))); all_goals (refine al_nil ?_; (simp only [go_sem, simprocAttr, List.length_map]); refine hK _ ?_; clear hK K))
    refine awp_seq_k fun K hK => ?_
    refine awp_if (decide ((i : Int) < a.length)) rfl (fun hc => ?_) (fun hc => ?_)
    · refine awp_skip ?_
      refine hK _ ?_; clear hK K
      have hi2 : i < a.length := by simpa using hc
      obtain ⟨x, hx⟩ := get_of_lt hi2
      obtain ⟨y, hy⟩ := get_of_lt (l := b) (i := i) (by omega)
      have hnn : (0 : Int) ≤ (i : Int) := Int.natCast_nonneg i

      refine awp_seq_k fun K hK => ?_
      refine awp_block ?_
      (refine awp_reg_seq [0, 1, 5, 12, 13] fun K hK => ?_; (repeat' ((refine al_r rfl fun K' hK' => ?_); (repeat (simp only [go_sem, simprocAttr, hx, hy, hnn, List.length_map, List.getElem?_map, Int.toNat_natCast, Option.map_some, List.length_map])); ((refine hK' _ _ ?_) <;> clear hK' K'))); all_goals (refine al_nil ?_; (simp only [go_sem, simprocAttr, hx, hy, hnn, List.length_map, List.getElem?_map, Int.toNat_natCast, Option.map_some, List.length_map]); refine hK _ ?_; clear hK K))
      refine awp_draw_seq (by kernel_rfl) [0, 1, 12, 13, 24] fun K hK => ?_
      ((refine ah_r 0 rfl (by kernel_rfl) rfl fun K' hK' => ?_); (simp only [go_sem, simprocAttr, hx, hy, hnn, List.length_map, List.getElem?_map, Int.toNat_natCast, Option.map_some, List.length_map]); ((refine hK' _ ?_); clear hK' K'))
      ((refine ah_r 1 rfl (by kernel_rfl) rfl fun K' hK' => ?_); (simp only [go_sem, simprocAttr, hx, hy, hnn, List.length_map, List.getElem?_map, Int.toNat_natCast, Option.map_some, List.length_map]); ((refine hK' _ ?_); clear hK' K'))
      ((refine ah_r 2 rfl (by kernel_rfl) rfl fun K' hK' => ?_); (simp only [go_sem, simprocAttr, hx, hy, hnn, List.length_map, List.getElem?_map, Int.toNat_natCast, Option.map_some, List.length_map]); ((refine hK' _ ?_); clear hK' K'))
      ((refine ah_r 3 rfl (by kernel_rfl) rfl fun K' hK' => ?_); (simp only [go_sem, simprocAttr, hx, hy, hnn, List.length_map, List.getElem?_map, Int.toNat_natCast, Option.map_some, List.length_map]); ((refine hK' _ ?_); clear hK' K'))
      ((refine ah_r 4 rfl (by kernel_rfl) rfl fun K' hK' => ?_); (simp only [go_sem, simprocAttr, hx, hy, hnn, List.length_map, List.getElem?_map, Int.toNat_natCast, Option.map_some, List.length_map]); ((refine hK' _ ?_); clear hK' K'))
      ((refine ah_r 5 rfl (by kernel_rfl) rfl fun K' hK' => ?_); (simp only [go_sem, simprocAttr, hx, hy, hnn, List.length_map, List.getElem?_map, Int.toNat_natCast, Option.map_some, List.length_map]); ((refine hK' _ ?_); clear hK' K'))
      ((refine ah_r 6 rfl (by kernel_rfl) rfl fun K' hK' => ?_); (simp only [go_sem, simprocAttr, hx, hy, hnn, List.length_map, List.getElem?_map, Int.toNat_natCast, Option.map_some, List.length_map]); ((refine hK' _ ?_); clear hK' K'))
      ((refine ah_r 7 rfl (by kernel_rfl) rfl fun K' hK' => ?_); (simp only [go_sem, simprocAttr, hx, hy, hnn, List.length_map, List.getElem?_map, Int.toNat_natCast, Option.map_some, List.length_map]); ((refine hK' _ ?_); clear hK' K'))
      ((refine ah_r 8 rfl (by kernel_rfl) rfl fun K' hK' => ?_); (simp only [go_sem, simprocAttr, hx, hy, hnn, List.length_map, List.getElem?_map, Int.toNat_natCast, Option.map_some, List.length_map]); ((refine hK' _ ?_); clear hK' K'))
      (refine ah_done (by kernel_rfl) ?_; (simp only [go_sem, simprocAttr, hx, hy, hnn, List.length_map, List.getElem?_map, Int.toNat_natCast, Option.map_some, List.length_map]); refine hK _ ?_; clear hK K)
      refine awp_if (!(eqI x y)) rfl (fun hc => ?_) (fun hc => ?_)
      · have he : eqI x y = false := by simpa using hc
        rw [listEq_not hx hy he] at hR
        (refine awp_reg_seq [4] fun K hK => ?_; (repeat' ((refine al_r rfl fun K' hK' => ?_); (repeat (simp only [go_sem, simprocAttr, hx, hy, hnn, List.length_map, List.getElem?_map, Int.toNat_natCast, Option.map_some, List.length_map])); ((refine hK' _ _ ?_) <;> clear hK' K'))); all_goals (refine al_nil ?_; (simp only [go_sem, simprocAttr, hx, hy, hnn, List.length_map, List.getElem?_map, Int.toNat_natCast, Option.map_some, List.length_map]); refine hK _ ?_; clear hK K))
        refine awp_ret ?_; (refine hR _ _ (.inl rfl) rfl ?_)
        simp only [go_sem, simprocAttr, hx, hy, hnn, List.length_map, List.getElem?_map, Int.toNat_natCast, Option.map_some, List.length_map]
      · have he : eqI x y = true := by simpa using hc
        refine awp_skip ?_
        refine hK _ ?_; clear hK K
        (refine awp_reg_end [0, 1, 12, 13] fun K hK => ?_; (repeat' ((refine al_r rfl fun K' hK' => ?_); (repeat (simp only [go_sem, simprocAttr, hx, hy, hnn, List.length_map, List.getElem?_map, Int.toNat_natCast, Option.map_some, List.length_map])); ((refine hK' _ _ ?_) <;> clear hK' K'))); all_goals (refine al_nil ?_; (simp only [go_sem, simprocAttr, hx, hy, hnn, List.length_map, List.getElem?_map, Int.toNat_natCast, Option.map_some, List.length_map]); refine hK _ ?_; clear hK K))
        refine ⟨_, ?_, i + 1, hi2, rfl, ?_, ?_⟩
        · omega
        · intro j u v hj hu hv
          by_cases e : j = i
          · subst e; rw [hx] at hu; rw [hy] at hv; cases hu; cases hv; exact he
          · exact hbefore j u v (by omega) hu hv
        · rw [wrap_next hi2 ha]

    · refine awp_exit ?_
      clear hK
      refine hK _ ?_; clear hK K
      have hi2 : i = a.length := by simp at hc; omega
      have hfin : listEq eqI a b = true := listEq_of hl fun j x y hx hy => hbefore j x y (by have := lt_of_get hx; omega) hx hy
      rw [hfin] at hR
      (refine awp_reg_seq [4] fun K hK => ?_; (repeat' ((refine al_r rfl fun K' hK' => ?_); (repeat (simp only [go_sem, simprocAttr, List.length_map])); ((refine hK' _ _ ?_) <;> clear hK' K'))); all_goals (refine al_nil ?_; (simp only [go_sem, simprocAttr, List.length_map]); refine hK _ ?_; clear hK K))
      refine awp_ret ?_; (refine hR _ _ (.inl rfl) rfl ?_)
      simp only [go_sem, simprocAttr, List.length_map]



theorem same_bl (l : List Blob) (h : l.length ≤ maxLen) : ACallP Try.prog 47 [blobs l, blobs l] (bD true) := by
  have := equalBl l l h
  rw [listEq_of rfl fun j x y hx hy => by rw [hx] at hy; cases hy; simp [eqB]] at this
  exact this

theorem same_in (l : List Int) (h : l.length ≤ maxLen) : ACallP Try.prog 48 [ints l, ints l] (bD true) := by
  have := equalIn l l h
  rw [(listEq_iff eqI_iff).2 rfl] at this
  exact this

theorem same_w (l : List Int) (h : l.length ≤ maxLen) : ACallP Try.prog 18 [words l, words l] (bD true) := by
  have := equalW l l h
  rw [(listEq_iff eqI_iff).2 rfl] at this
  exact this


theorem sameC (h g : List Int) (old : Int) (late : List Int) (s : List Blob) (hh : h.length ≤ maxLen) (hg : g.length ≤ maxLen) (hl : late.length ≤ maxLen) (hs : s.length ≤ maxLen) :
    ACallP Try.prog 46 [.rd [.sl (h.map wrow)] 0, .rd [.sl (h.map wrow)] 0, .rd [.sl (s.map Blob.row)] 0, .rd [.sl (s.map Blob.row)] 0, .rd [.sl (g.map wrow), .lit (.int .i64 old), .sl (late.map irow)] 0, .rd [.sl (g.map wrow)] 0, .rd [.sl (late.map irow)] 0] (bD true) := by
  have h1 := same_w h hh
  have h2 := same_bl s hs
  have h3 := same_w g hg
  have h4 := same_in late hl
  refine acallp_fn [7] Try.func46 rfl rfl Try.ntmps46 (by simp) fun R hR => ?_
  (refine awp_reg_seq [0, 1, 2, 3, 4, 5, 6] fun K hK => ?_; (repeat' ((refine al_r rfl fun K' hK' => ?_); (repeat (simp only [go_sem, simprocAttr])); ((refine hK' _ _ ?_) <;> clear hK' K'))); all_goals (refine al_nil ?_; (simp only [go_sem, simprocAttr]); refine hK _ ?_; clear hK K))
  (refine awp_reg_seq [7] fun K hK => ?_; (repeat' ((first | refine al_r rfl fun K' hK' => ?_ | refine al_t rfl rfl fun K' hK' => ?_); (repeat (simp only [go_sem, simprocAttr])); (first | ((refine hK' _ _ ?_) <;> clear hK' K') | ((show AC _ _ (D.fn 18 _) _ _); refine acall_p (f := 18) (e := rfl) (hr := rfl) (k := hK' _ _ ?_) (hc := Try.call18) (h := h1); clear hK' K') | ((show AC _ _ (D.fn 18 _) _ _); refine acall_p (f := 18) (e := rfl) (hr := rfl) (k := hK' _ _ ?_) (hc := Try.call18) (h := h3); clear hK' K') | ((show AC _ _ (D.fn 47 _) _ _); refine acall_p (f := 47) (e := rfl) (hr := rfl) (k := hK' _ _ ?_) (hc := Try.call47) (h := h2); clear hK' K') | ((show AC _ _ (D.fn 48 _) _ _); refine acall_p (f := 48) (e := rfl) (hr := rfl) (k := hK' _ _ ?_) (hc := Try.call48) (h := h4); clear hK' K')))); all_goals (refine al_nil ?_; (simp only [go_sem, simprocAttr]); refine hK _ ?_; clear hK K))
  all_goals (refine awp_ret ?_; (refine hR _ _ (.inl rfl) rfl ?_); (simp only [go_sem, simprocAttr, *, Bool.and_true, Bool.and_false, Bool.true_and, Bool.false_and, Bool.or_true, Bool.true_or, Bool.or_false, Bool.false_or, Bool.not_true, Bool.not_false, Bool.false_eq_true]; done))
end Go.Proofs.Ytagphggcdmjlpaa.B

/- HeapOwn's clones: a region that draws its order, told by what is done. -/
namespace Go.Proofs.Ytagphggcdmjlpaa.B
open Go.Ab Go.Proofs.Ytagphggcdmjlpaa.T Go.Proofs.Ytagphggcdmjlpaa.P


theorem cloneWs (xs : List (List PV)) (hx : ∀ x, x ∈ xs → x.length = 1) (hn : xs.length ≤ 17592186044415) :
    ACalls Try.prog 43 [.p (.sl xs)] [] (fun r obs => r = .ref 0 0 xs.length ∧ obs = [.row 1 xs]) := by
  refine acalln_fn [2] Try.func43 rfl rfl Try.ntmps43 (by simp) fun R hR => ?_
  (refine awp_reg_seq [0] fun K hK => ?_; (repeat' ((refine al_r rfl fun K' hK' => ?_); (repeat (simp only [go_sem, simprocAttr])); ((refine hK' _ _ ?_) <;> clear hK' K'))); all_goals (refine al_nil ?_; (simp only [go_sem, simprocAttr]); refine hK _ ?_; clear hK K))
  refine awp_seq_k fun K hK => ?_
  refine awp_reg_seq [0, 4] fun K hK => ?_
  repeat' ((refine al_r rfl fun K' hK' => ?_); (repeat (simp only [go_sem, simprocAttr])); ((refine hK' _ _ ?_) <;> clear hK' K'))
  refine al_run rfl rfl (by decide) fun K' hK' => ?_
  simp only [go_sem, simprocAttr]
  refine ⟨⟨_, rfl⟩, ?_⟩
  intro b hb
  refine hK' _ _ ?_
  clear hK' K'
  (refine al_nil ?_; (simp only [go_sem, simprocAttr]); refine hK _ ?_; clear hK K)
  refine awp_if (b) rfl (fun hc => ?_) (fun hc => ?_)
  · have hx0 : xs = [] := by
      cases xs with
      | nil => rfl
      | cons y l => have := hb (by simp); rw [this] at hc; cases hc
    subst hx0
    (refine awp_reg_seq [2] fun K hK => ?_; (repeat' ((refine al_r rfl fun K' hK' => ?_); (repeat (simp only [go_sem, simprocAttr])); ((refine hK' _ _ ?_) <;> clear hK' K'))); all_goals (refine al_nil ?_; (simp only [go_sem, simprocAttr]); refine hK _ ?_; clear hK K))
    refine awp_born 2 1 rfl ?_
    refine awp_ret (hR _ _ [0] (.inl rfl) rfl (by simp) ?_)
    refine ⟨?_, ?_⟩ <;> simp only [go_sem, simprocAttr]
  · refine awp_skip ?_
    refine hK _ ?_; clear hK K
    refine awp_reg_seq [2] fun K hK => ?_
    repeat' ((refine al_r rfl fun K' hK' => ?_); (repeat (first | (simp only [go_sem, simprocAttr]) | refine AAp.grow ?_)); ((first | refine hK' _ _ ?_ | refine ⟨?_, ?_, hK' _ _ ?_⟩) <;> clear hK' K' <;> (first | (show alist _ _ _ _ _ _; skip) | assumption | omega)))
    (refine al_nil ?_; (simp only [go_sem, simprocAttr]); refine hK _ ?_; clear hK K)
    refine awp_ret (hR _ _ [1] (.inl rfl) rfl (by simp) ?_)
    refine ⟨?_, ?_⟩ <;> simp only [go_sem, simprocAttr]


theorem cloneIs (xs : List (List PV)) (hx : ∀ x, x ∈ xs → x.length = 1) (hn : xs.length ≤ 17592186044415) :
    ACalls Try.prog 45 [.p (.sl xs)] [] (fun r obs => r = .ref 0 0 xs.length ∧ obs = [.row 1 xs]) := by
  refine acalln_fn [2] Try.func45 rfl rfl Try.ntmps45 (by simp) fun R hR => ?_
  (refine awp_reg_seq [0] fun K hK => ?_; (repeat' ((refine al_r rfl fun K' hK' => ?_); (repeat (simp only [go_sem, simprocAttr])); ((refine hK' _ _ ?_) <;> clear hK' K'))); all_goals (refine al_nil ?_; (simp only [go_sem, simprocAttr]); refine hK _ ?_; clear hK K))
  refine awp_seq_k fun K hK => ?_
  refine awp_reg_seq [0, 4] fun K hK => ?_
  repeat' ((refine al_r rfl fun K' hK' => ?_); (repeat (simp only [go_sem, simprocAttr])); ((refine hK' _ _ ?_) <;> clear hK' K'))
  refine al_run rfl rfl (by decide) fun K' hK' => ?_
  simp only [go_sem, simprocAttr]
  refine ⟨⟨_, rfl⟩, ?_⟩
  intro b hb
  refine hK' _ _ ?_
  clear hK' K'
  (refine al_nil ?_; (simp only [go_sem, simprocAttr]); refine hK _ ?_; clear hK K)
  refine awp_if (b) rfl (fun hc => ?_) (fun hc => ?_)
  · have hx0 : xs = [] := by
      cases xs with
      | nil => rfl
      | cons y l => have := hb (by simp); rw [this] at hc; cases hc
    subst hx0
    (refine awp_reg_seq [2] fun K hK => ?_; (repeat' ((refine al_r rfl fun K' hK' => ?_); (repeat (simp only [go_sem, simprocAttr])); ((refine hK' _ _ ?_) <;> clear hK' K'))); all_goals (refine al_nil ?_; (simp only [go_sem, simprocAttr]); refine hK _ ?_; clear hK K))
    refine awp_born 2 1 rfl ?_
    refine awp_ret (hR _ _ [0] (.inl rfl) rfl (by simp) ?_)
    refine ⟨?_, ?_⟩ <;> simp only [go_sem, simprocAttr]
  · refine awp_skip ?_
    refine hK _ ?_; clear hK K
    refine awp_reg_seq [2] fun K hK => ?_
    repeat' ((refine al_r rfl fun K' hK' => ?_); (repeat (first | (simp only [go_sem, simprocAttr]) | refine AAp.grow ?_)); ((first | refine hK' _ _ ?_ | refine ⟨?_, ?_, hK' _ _ ?_⟩) <;> clear hK' K' <;> (first | (show alist _ _ _ _ _ _; skip) | assumption | omega)))
    (refine al_nil ?_; (simp only [go_sem, simprocAttr]); refine hK _ ?_; clear hK K)
    refine awp_ret (hR _ _ [1] (.inl rfl) rfl (by simp) ?_)
    refine ⟨?_, ?_⟩ <;> simp only [go_sem, simprocAttr]


theorem ah_cut {P : Program} {nt : Nat} {md : Region.Mode} {ops : Array Oper} {K : St → Prop} {fuel : Nat} {listed : Array Bool} {st : St} (ts ids : List Nat) (hd : ids.Nodup) (hp : ∀ k, k < st.n0 → ids[k]? = some k) (h : AH P nt md ops K fuel listed (st.cut ts ids)) : AH P nt md ops K fuel listed st :=
  fun M H0 w0 w a hi => h M H0 w0 w a (hi.cut ts hd hp)
theorem alist_alloc {P : Program} {nt : Nat} {ops : Array Oper} {o : Oper} {l : List (Nat × D)} {ob : List Ob} {n0 : Nat} {K : St → Prop} {e : TypeId} {t : Nat} {cs : List D} (ho : o.op = .alloc e) (hd : o.dst = some t) (hg : o.guard = none) (ht : t < nt) (hz : zeroO P e = some cs) (hok : cs.all cellOk0 = true)
    (h : K ⟨ofL ((t, .ptr ob.length 0 0) :: l), ob ++ [.box cs], n0⟩) : alist (aop P) nt ops [o] ⟨ofL l, ob, n0⟩ K := by
  unfold alist
  rw [hg]
  refine ⟨by rw [hd]; exact ht, ?_⟩
  unfold aop
  rw [ho]
  simp only [hz]
  refine ⟨hok, ?_⟩
  rw [hd]
  exact h

theorem alist_new {P : Program} {nt : Nat} {ops : Array Oper} {o : Oper} {l : List (Nat × D)} {ob : List Ob} {n0 : Nat} {K : St → Prop} {f x t n s : Nat} {xs : List (List PV)} {ts : Array TypeId} {d : D} (ho : o.op = .call { callee := .value (.func f), args := #[.tmp x], argTypes := ts }) (hd : o.dst = some t) (hg : o.guard = none) (ht : t < nt)
    (hx : ofL l x = d) (hdd : D.map (ren1 []) d = d) (hcf : ∀ args w, (callFunc f args).run P w = .ok (.enter f args) w) (hc : ACalls P f [d] [] (fun r obs => r = .ref 0 0 n ∧ obs = [.row s xs]))
    (h : K ⟨ofL ((t, .ref ob.length 0 n) :: l), ob ++ [.row s xs], n0⟩) : alist (aop P) nt ops [o] ⟨ofL l, ob, n0⟩ K := by
  unfold alist
  rw [hg]
  refine ⟨by rw [hd]; exact ht, ?_⟩
  unfold aop
  rw [ho]
  show AC P ⟨ofL l, ob, n0⟩ (.fn f []) [ofL l x] _
  rw [hx]
  refine acall_new (args' := [d]) hcf hc (by simp [hdd]) ?_
  rintro r obs' ⟨rfl, rfl⟩
  rw [hd]
  have e : D.map (back [] ob.length) (.ref 0 0 n) = .ref ob.length 0 n := by simp [D.map, back, idx]
  show K (St.put ⟨ofL l, ob ++ [Ob.row s xs].map (renOb (back [] ob.length)), n0⟩ (some t) (D.map (back [] ob.length) (.ref 0 0 n)))
  rw [e]
  exact h

/-- What is done of the region's calls and variables. -/
abbrev Fl := Bool × Bool × Bool × Bool × Bool × Bool × Bool × Bool
def Fl.listed : Fl → Array Bool := fun (d1, d3, d6, d9, a0, a1, a2, a3) => #[true, d1, true, d3, true, true, d6, true, true, d9, a0, a1, a2, a3, false, false, false, false]
def Fl.rdy : Fl → List Nat := fun (d1, d3, d6, d9, a0, a1, a2, a3) => (if d1 then (if d3 then (if d6 then (if d9 then [] else [9]) else [6]) else [3]) else [1]) ++ (if a0 then [] else [10]) ++ (if a1 then [] else [11]) ++ (if a2 then [] else [12]) ++ (if a3 then [] else [13])
def Fl.ok : Fl → Bool := fun (d1, d3, d6, d9, _, _, _, _) => (d1 || !d3) && (d3 || !d6) && (d6 || !d9)
def Fl.rem : Fl → Nat := fun (d1, d3, d6, d9, a0, a1, a2, a3) => (if d1 then 0 else 1) + (if d3 then 0 else 1) + (if d6 then 0 else 1) + (if d9 then 0 else 1) + (if a0 then 0 else 1) + (if a1 then 0 else 1) + (if a2 then 0 else 1) + (if a3 then 0 else 1)

section
variable (h g late roots : List Int) (old at_ : Int) (s : List Blob) (text : ByteArray) (o : List PV)

def baseT : List (Nat × D) := [(57, words h), (59, blobs s), (62, words g), (65, ints late), (3, words roots), (4, iD at_), (6, sD text), (7, .rd [.sl (h.map wrow)] 0), (8, .rd o 0), (9, .rd [.sl (g.map wrow), .lit (.int .i64 old), .sl (late.map irow)] 0), (12, .rd [.sl (s.map Blob.row)] 0)]
def Fl.tm : Fl → List (Nat × D) := fun (d1, d3, d6, d9, a0, a1, a2, a3) =>
  [(58, if d1 then .ref 0 0 h.length else .none), (60, if d3 then .ref 1 0 s.length else .none), (63, if d6 then .ref 2 0 g.length else .none), (66, if d9 then .ref 3 0 late.length else .none),
   (15, if a0 then .ptr 4 0 0 else .none), (16, if a1 then .ptr 5 0 0 else .none), (17, if a2 then .ptr 6 0 0 else .none), (18, if a3 then .ptr 7 0 0 else .none)] ++ baseT h g late roots old at_ s text o
def Fl.ob : Fl → List Ob := fun (d1, d3, d6, d9, a0, a1, a2, a3) =>
  [if d1 then .row 1 (h.map wrow) else .dead, if d3 then .row 2 (s.map Blob.row) else .dead, if d6 then .row 1 (g.map wrow) else .dead, if d9 then .row 1 (late.map irow) else .dead,
   if a0 then .box [.nil] else .dead, if a1 then .box [.nil] else .dead, if a2 then .box [.nil] else .dead, if a3 then .box [.nil] else .dead]
abbrev Fl.st (F : Fl) : St := ⟨ofL (F.tm h g late roots old at_ s text o), F.ob h g late s, 0⟩
def keysT : List Nat := [58, 60, 63, 66, 15, 16, 17, 18, 57, 59, 62, 65, 3, 4, 6, 7, 8, 9, 12]
def slotT (i : Nat) : List Nat := (List.range 8).set i 8

/-- One step more, told of the states. -/
theorem fl_alloc (F F' : Fl) (k t : Nat) (h1 : (F = F) ∧ ((k = 4 ∧ t = 15 ∧ ∃ d1 d3 d6 d9 a1 a2 a3, F = (d1, d3, d6, d9, false, a1, a2, a3) ∧ F' = (d1, d3, d6, d9, true, a1, a2, a3)) ∨
    (k = 5 ∧ t = 16 ∧ ∃ d1 d3 d6 d9 a0 a2 a3, F = (d1, d3, d6, d9, a0, false, a2, a3) ∧ F' = (d1, d3, d6, d9, a0, true, a2, a3)) ∨
    (k = 6 ∧ t = 17 ∧ ∃ d1 d3 d6 d9 a0 a1 a3, F = (d1, d3, d6, d9, a0, a1, false, a3) ∧ F' = (d1, d3, d6, d9, a0, a1, true, a3)) ∨
    (k = 7 ∧ t = 18 ∧ ∃ d1 d3 d6 d9 a0 a1 a2, F = (d1, d3, d6, d9, a0, a1, a2, false) ∧ F' = (d1, d3, d6, d9, a0, a1, a2, true)))) :
    St.cut keysT (slotT k) ⟨ofL ((t, .ptr 8 0 0) :: F.tm h g late roots old at_ s text o), F.ob h g late s ++ [.box [.nil]], 0⟩ = F'.st h g late roots old at_ s text o := by
  rcases h1.2 with ⟨rfl, rfl, d1, d3, d6, d9, a1, a2, a3, rfl, rfl⟩ | ⟨rfl, rfl, d1, d3, d6, d9, a1, a2, a3, rfl, rfl⟩ | ⟨rfl, rfl, d1, d3, d6, d9, a1, a2, a3, rfl, rfl⟩ | ⟨rfl, rfl, d1, d3, d6, d9, a1, a2, a3, rfl, rfl⟩ <;>
  cases d1 <;> cases d3 <;> cases d6 <;> cases d9 <;> cases a1 <;> cases a2 <;> cases a3 <;> rfl
end
end Go.Proofs.Ytagphggcdmjlpaa.B

/- HeapOwn's clones, in whatever order. -/
namespace Go.Proofs.Ytagphggcdmjlpaa.B
open Go.Ab Go.Proofs.Ytagphggcdmjlpaa.T Go.Proofs.Ytagphggcdmjlpaa.P

section
variable (h g late roots : List Int) (old at_ : Int) (s : List Blob) (text : ByteArray) (o : List PV)

theorem fl_call (F F' : Fl) (k t n sz : Nat) (xs : List (List PV)) (h1 : (k = 0 ∧ t = 58 ∧ n = h.length ∧ sz = 1 ∧ xs = h.map wrow ∧ ∃ d3 d6 d9 a0 a1 a2 a3, F = (false, d3, d6, d9, a0, a1, a2, a3) ∧ F' = (true, d3, d6, d9, a0, a1, a2, a3)) ∨
    (k = 1 ∧ t = 60 ∧ n = s.length ∧ sz = 2 ∧ xs = s.map Blob.row ∧ ∃ d1 d6 d9 a0 a1 a2 a3, F = (d1, false, d6, d9, a0, a1, a2, a3) ∧ F' = (d1, true, d6, d9, a0, a1, a2, a3)) ∨
    (k = 2 ∧ t = 63 ∧ n = g.length ∧ sz = 1 ∧ xs = g.map wrow ∧ ∃ d1 d3 d9 a0 a1 a2 a3, F = (d1, d3, false, d9, a0, a1, a2, a3) ∧ F' = (d1, d3, true, d9, a0, a1, a2, a3)) ∨
    (k = 3 ∧ t = 66 ∧ n = late.length ∧ sz = 1 ∧ xs = late.map irow ∧ ∃ d1 d3 d6 a0 a1 a2 a3, F = (d1, d3, d6, false, a0, a1, a2, a3) ∧ F' = (d1, d3, d6, true, a0, a1, a2, a3))) :
    St.cut keysT (slotT k) ⟨ofL ((t, .ref 8 0 n) :: F.tm h g late roots old at_ s text o), F.ob h g late s ++ [.row sz xs], 0⟩ = F'.st h g late roots old at_ s text o := by
  rcases h1 with ⟨rfl, rfl, rfl, rfl, rfl, d3, d6, d9, a0, a1, a2, a3, rfl, rfl⟩ | ⟨rfl, rfl, rfl, rfl, rfl, d3, d6, d9, a0, a1, a2, a3, rfl, rfl⟩ | ⟨rfl, rfl, rfl, rfl, rfl, d3, d6, d9, a0, a1, a2, a3, rfl, rfl⟩ | ⟨rfl, rfl, rfl, rfl, rfl, d3, d6, d9, a0, a1, a2, a3, rfl, rfl⟩ <;>
  cases d3 <;> cases d6 <;> cases d9 <;> cases a0 <;> cases a1 <;> cases a2 <;> cases a3 <;> rfl

/-- The region, by what is done. -/
theorem fl_all {P : Program} {nt : Nat} {ops : Array Oper} {K : St → Prop} {o1 o3 o6 o9 p0 p1 p2 p3 : Oper} {f1 f3 f6 f9 : Nat} {ts1 ts3 ts6 ts9 : Array TypeId} {e0 e1 e2 e3 : TypeId}
    (q1 : ops[1]? = some o1) (r1 : o1.op = .call { callee := .value (.func f1), args := #[.tmp 57], argTypes := ts1 }) (s1 : o1.dst = some 58) (u1 : o1.guard = none) (v1 : ∀ args w, (callFunc f1 args).run P w = .ok (.enter f1 args) w) (w1 : ACalls P f1 [words h] [] (fun r obs => r = .ref 0 0 h.length ∧ obs = [.row 1 (h.map wrow)]))
    (q3 : ops[3]? = some o3) (r3 : o3.op = .call { callee := .value (.func f3), args := #[.tmp 59], argTypes := ts3 }) (s3 : o3.dst = some 60) (u3 : o3.guard = none) (v3 : ∀ args w, (callFunc f3 args).run P w = .ok (.enter f3 args) w) (w3 : ACalls P f3 [blobs s] [] (fun r obs => r = .ref 0 0 s.length ∧ obs = [.row 2 (s.map Blob.row)]))
    (q6 : ops[6]? = some o6) (r6 : o6.op = .call { callee := .value (.func f6), args := #[.tmp 62], argTypes := ts6 }) (s6 : o6.dst = some 63) (u6 : o6.guard = none) (v6 : ∀ args w, (callFunc f6 args).run P w = .ok (.enter f6 args) w) (w6 : ACalls P f6 [words g] [] (fun r obs => r = .ref 0 0 g.length ∧ obs = [.row 1 (g.map wrow)]))
    (q9 : ops[9]? = some o9) (r9 : o9.op = .call { callee := .value (.func f9), args := #[.tmp 65], argTypes := ts9 }) (s9 : o9.dst = some 66) (u9 : o9.guard = none) (v9 : ∀ args w, (callFunc f9 args).run P w = .ok (.enter f9 args) w) (w9 : ACalls P f9 [ints late] [] (fun r obs => r = .ref 0 0 late.length ∧ obs = [.row 1 (late.map irow)]))
    (k0 : ops[10]? = some p0) (l0 : p0.op = .alloc e0) (m0 : p0.dst = some 15) (n0 : p0.guard = none) (z0 : zeroO P e0 = some [.nil])
    (k1 : ops[11]? = some p1) (l1 : p1.op = .alloc e1) (m1 : p1.dst = some 16) (n1 : p1.guard = none) (z1 : zeroO P e1 = some [.nil])
    (k2 : ops[12]? = some p2) (l2 : p2.op = .alloc e2) (m2 : p2.dst = some 17) (n2 : p2.guard = none) (z2 : zeroO P e2 = some [.nil])
    (k3 : ops[13]? = some p3) (l3 : p3.op = .alloc e3) (m3 : p3.dst = some 18) (n3 : p3.guard = none) (z3 : zeroO P e3 = some [.nil]) (hnt : 66 < nt)
    (hr : ∀ F : Fl, F.ok = true → F.rdy ≠ [] → Region.ready .any ops F.listed = F.rdy)
    (hf : AH P nt .any ops K 4 (Fl.listed (true, true, true, true, true, true, true, true)) (Fl.st h g late roots old at_ s text o (true, true, true, true, true, true, true, true))) :
    ∀ (m : Nat) (F : Fl), F.ok = true → F.rem = m → AH P nt .any ops K (m + 4) F.listed (F.st h g late roots old at_ s text o) := by
  intro m
  induction m with
  | zero =>
    rintro ⟨d1, d3, d6, d9, a0, a1, a2, a3⟩ _ hm
    cases d1 <;> cases d3 <;> cases d6 <;> cases d9 <;> cases a0 <;> cases a1 <;> cases a2 <;> cases a3 <;> first | exact hf | (simp [Fl.rem] at hm; done)
  | succ m ih =>
    rintro ⟨d1, d3, d6, d9, a0, a1, a2, a3⟩ hok hm
    have hne : Fl.rdy (d1, d3, d6, d9, a0, a1, a2, a3) ≠ [] := by
      cases d1 <;> cases d3 <;> cases d6 <;> cases d9 <;> cases a0 <;> cases a1 <;> cases a2 <;> cases a3 <;> first | (simp [Fl.rdy]; done) | (simp [Fl.rem] at hm; done)
    refine ah_all (hr _ hok hne) hne fun i hi => ?_
    have call : ∀ (F' : Fl) (k t n sz f x : Nat) (xs : List (List PV)) (oo : Oper) (ts : Array TypeId) (d : D), oo.op = .call { callee := .value (.func f), args := #[.tmp x], argTypes := ts } → oo.dst = some t → oo.guard = none → t < nt → ofL (Fl.tm h g late roots old at_ s text o (d1, d3, d6, d9, a0, a1, a2, a3)) x = d → D.map (ren1 []) d = d →
        (∀ args w, (callFunc f args).run P w = .ok (.enter f args) w) → ACalls P f [d] [] (fun r obs => r = .ref 0 0 n ∧ obs = [.row sz xs]) → F'.ok = true → F'.rem = m → F'.listed = (Fl.listed (d1, d3, d6, d9, a0, a1, a2, a3)).setIfInBounds i true → (slotT k).Nodup →
        St.cut keysT (slotT k) ⟨ofL ((t, .ref 8 0 n) :: Fl.tm h g late roots old at_ s text o (d1, d3, d6, d9, a0, a1, a2, a3)), Fl.ob h g late s (d1, d3, d6, d9, a0, a1, a2, a3) ++ [.row sz xs], 0⟩ = F'.st h g late roots old at_ s text o →
        alist (aop P) nt ops [oo] (Fl.st h g late roots old at_ s text o (d1, d3, d6, d9, a0, a1, a2, a3)) fun st' => AH P nt .any ops K (m + 4) ((Fl.listed (d1, d3, d6, d9, a0, a1, a2, a3)).setIfInBounds i true) st' := by
      intro F' k t n sz f x xs oo ts d b1 b2 b3 b4 b5 b6 b7 b8 b9 b10 b11 b12 b13
      refine alist_new b1 b2 b3 b4 b5 b6 b7 b8 ?_
      refine ah_cut keysT (slotT k) b12 (fun q hq => absurd hq (Nat.not_lt_zero q)) ?_
      have e : (Fl.ob h g late s (d1, d3, d6, d9, a0, a1, a2, a3)).length = 8 := rfl
      rw [e, b13, ← b11]
      exact ih F' b9 b10
    have alloc : ∀ (F' : Fl) (k t : Nat) (oo : Oper) (e : TypeId), oo.op = .alloc e → oo.dst = some t → oo.guard = none → t < nt → zeroO P e = some [.nil] → F'.ok = true → F'.rem = m → F'.listed = (Fl.listed (d1, d3, d6, d9, a0, a1, a2, a3)).setIfInBounds i true → (slotT k).Nodup →
        St.cut keysT (slotT k) ⟨ofL ((t, .ptr 8 0 0) :: Fl.tm h g late roots old at_ s text o (d1, d3, d6, d9, a0, a1, a2, a3)), Fl.ob h g late s (d1, d3, d6, d9, a0, a1, a2, a3) ++ [.box [.nil]], 0⟩ = F'.st h g late roots old at_ s text o →
        alist (aop P) nt ops [oo] (Fl.st h g late roots old at_ s text o (d1, d3, d6, d9, a0, a1, a2, a3)) fun st' => AH P nt .any ops K (m + 4) ((Fl.listed (d1, d3, d6, d9, a0, a1, a2, a3)).setIfInBounds i true) st' := by
      intro F' k t oo e b1 b2 b3 b4 b5 b9 b10 b11 b12 b13
      refine alist_alloc b1 b2 b3 b4 b5 (by simp [cellOk0]) ?_
      refine ah_cut keysT (slotT k) b12 (fun q hq => absurd hq (Nat.not_lt_zero q)) ?_
      have e : (Fl.ob h g late s (d1, d3, d6, d9, a0, a1, a2, a3)).length = 8 := rfl
      rw [e, b13, ← b11]
      exact ih F' b9 b10
    have hi : (i = 1 ∧ d1 = false) ∨ (i = 3 ∧ d1 = true ∧ d3 = false) ∨ (i = 6 ∧ d1 = true ∧ d3 = true ∧ d6 = false) ∨ (i = 9 ∧ d1 = true ∧ d3 = true ∧ d6 = true ∧ d9 = false) ∨ (i = 10 ∧ a0 = false) ∨ (i = 11 ∧ a1 = false) ∨ (i = 12 ∧ a2 = false) ∨ (i = 13 ∧ a3 = false) := by
      cases d1 <;> cases d3 <;> cases d6 <;> cases d9 <;> cases a0 <;> cases a1 <;> cases a2 <;> cases a3 <;> simp [Fl.rdy] at hi ⊢ <;> omega
    rcases hi with ⟨rfl, rfl⟩ | ⟨rfl, rfl, rfl⟩ | ⟨rfl, rfl, rfl, rfl⟩ | ⟨rfl, rfl, rfl, rfl, rfl⟩ | ⟨rfl, rfl⟩ | ⟨rfl, rfl⟩ | ⟨rfl, rfl⟩ | ⟨rfl, rfl⟩
    · refine ⟨o1, q1, call (true, d3, d6, d9, a0, a1, a2, a3) 0 58 h.length 1 f1 57 (h.map wrow) o1 ts1 (words h) r1 s1 u1 (by omega) rfl rfl v1 w1 ?_ ?_ rfl (by decide) (fl_call h g late roots old at_ s text o _ _ 0 58 _ 1 _ (.inl ⟨rfl, rfl, rfl, rfl, rfl, d3, d6, d9, a0, a1, a2, a3, rfl, rfl⟩))⟩
      · simp [Fl.ok] at hok ⊢; exact ⟨hok.1.2, hok.2⟩
      · simp [Fl.rem] at hm ⊢; omega
    · refine ⟨o3, q3, call (true, true, d6, d9, a0, a1, a2, a3) 1 60 s.length 2 f3 59 (s.map Blob.row) o3 ts3 (blobs s) r3 s3 u3 (by omega) rfl rfl v3 w3 ?_ ?_ rfl (by decide) (fl_call h g late roots old at_ s text o _ _ 1 60 _ 2 _ (.inr (.inl ⟨rfl, rfl, rfl, rfl, rfl, true, d6, d9, a0, a1, a2, a3, rfl, rfl⟩)))⟩
      · simp [Fl.ok] at hok ⊢; (exact hok.2)
      · simp [Fl.rem] at hm ⊢; omega
    · refine ⟨o6, q6, call (true, true, true, d9, a0, a1, a2, a3) 2 63 g.length 1 f6 62 (g.map wrow) o6 ts6 (words g) r6 s6 u6 (by omega) rfl rfl v6 w6 ?_ ?_ rfl (by decide) (fl_call h g late roots old at_ s text o _ _ 2 63 _ 1 _ (.inr (.inr (.inl ⟨rfl, rfl, rfl, rfl, rfl, true, true, d9, a0, a1, a2, a3, rfl, rfl⟩))))⟩
      · simp [Fl.ok]
      · simp [Fl.rem] at hm ⊢; omega
    · refine ⟨o9, q9, call (true, true, true, true, a0, a1, a2, a3) 3 66 late.length 1 f9 65 (late.map irow) o9 ts9 (ints late) r9 s9 u9 (by omega) rfl rfl v9 w9 ?_ ?_ rfl (by decide) (fl_call h g late roots old at_ s text o _ _ 3 66 _ 1 _ (.inr (.inr (.inr ⟨rfl, rfl, rfl, rfl, rfl, true, true, true, a0, a1, a2, a3, rfl, rfl⟩))))⟩
      · simp [Fl.ok]
      · simp [Fl.rem] at hm ⊢; omega
    · refine ⟨p0, k0, alloc (d1, d3, d6, d9, true, a1, a2, a3) 4 15 p0 e0 l0 m0 n0 (by omega) z0 hok ?_ rfl (by decide) (fl_alloc h g late roots old at_ s text o _ _ 4 15 ⟨rfl, .inl ⟨rfl, rfl, d1, d3, d6, d9, a1, a2, a3, rfl, rfl⟩⟩)⟩
      simp [Fl.rem] at hm ⊢; omega
    · refine ⟨p1, k1, alloc (d1, d3, d6, d9, a0, true, a2, a3) 5 16 p1 e1 l1 m1 n1 (by omega) z1 hok ?_ rfl (by decide) (fl_alloc h g late roots old at_ s text o _ _ 5 16 ⟨rfl, .inr (.inl ⟨rfl, rfl, d1, d3, d6, d9, a0, a2, a3, rfl, rfl⟩)⟩)⟩
      simp [Fl.rem] at hm ⊢; omega
    · refine ⟨p2, k2, alloc (d1, d3, d6, d9, a0, a1, true, a3) 6 17 p2 e2 l2 m2 n2 (by omega) z2 hok ?_ rfl (by decide) (fl_alloc h g late roots old at_ s text o _ _ 6 17 ⟨rfl, .inr (.inr (.inl ⟨rfl, rfl, d1, d3, d6, d9, a0, a1, a3, rfl, rfl⟩))⟩)⟩
      simp [Fl.rem] at hm ⊢; omega
    · refine ⟨p3, k3, alloc (d1, d3, d6, d9, a0, a1, a2, true) 7 18 p3 e3 l3 m3 n3 (by omega) z3 hok ?_ rfl (by decide) (fl_alloc h g late roots old at_ s text o _ _ 7 18 ⟨rfl, .inr (.inr (.inr ⟨rfl, rfl, d1, d3, d6, d9, a0, a1, a2, rfl, rfl⟩))⟩)⟩
      simp [Fl.rem] at hm ⊢; omega
end
end Go.Proofs.Ytagphggcdmjlpaa.B

/- Minor and Major, their heap an own row: contracts. -/
namespace Go.Proofs.Ytagphggcdmjlpaa.P
open Go.Ab Go.Proofs.Ytagphggcdmjlpaa.T


theorem minorE (h : List Int) (old e : Int) (late ws : List Int) (he : (e != 0) = true) (hnm : ACallP Try.prog 66 [agesD h old late, words ws] (iD e)) : ACalls Try.prog 38 [agesD h old late, words ws] [] (fun r obs' => r = .tup [.agg [.ref 0 0 0, iD 0, .nil], words [], iD e] ∧ obs' = [.row 1 []]) := by
  refine acallm_fnv [.cell 4 64, .tmp 5, .tmp 6] Try.func38 rfl rfl Try.ntmps38 (by simp) (by simp) fun R hR => ?_
  (refine awp_reg_seq [1, 2, 4] fun K hK => ?_; (repeat' ((refine al_r rfl fun K' hK' => ?_); (repeat (simp only [go_sem, simprocAttr, he])); ((refine hK' _ _ ?_) <;> clear hK' K'))); all_goals (refine al_nil ?_; (simp only [go_sem, simprocAttr, he]); refine hK _ ?_; clear hK K))
  (refine awp_frz [1, 2, 4] [1] (by decide) (by (simp; done)) ?_; simp only [go_sem, simprocAttr, he])
  refine awp_seq_k fun K hK => ?_
  (refine awp_reg_seq [1, 2, 4, 7] fun K hK => ?_; (repeat' ((refine al_r rfl fun K' hK' => ?_); (repeat (simp only [go_sem, simprocAttr, he])); (first | ((refine hK' _ _ ?_) <;> clear hK' K') | ((show AC _ _ (D.fn 66 _) _ _); refine acall_g (f := 66) (e := rfl) (hr := rfl) (hf := by simp [D.all, D.allL, flatL, flatPV]) (k := hK' _ _ ?_) (hc := Try.call66) (h := hnm); clear hK' K')))); all_goals (refine al_nil ?_; (simp only [go_sem, simprocAttr, he]); refine hK _ ?_; clear hK K))
  (refine awp_reg_seq [1, 2, 4, 7, 14] fun K hK => ?_; (repeat' ((refine al_r rfl fun K' hK' => ?_); (repeat (simp only [go_sem, simprocAttr, he])); ((refine hK' _ _ ?_) <;> clear hK' K'))); all_goals (refine al_nil ?_; (simp only [go_sem, simprocAttr, he]); refine hK _ ?_; clear hK K))
  refine awp_if (_) rfl (fun hc => ?_) (fun hc => ?_)
  · (refine awp_reg_seq [4, 5, 6] fun K hK => ?_; (repeat' ((first | refine al_r rfl fun K' hK' => ?_ | refine al_d rfl fun K' hK' => ?_); (repeat (first | (simp only [go_sem, simprocAttr, he]) | refine AS.mk ?_)); ((first | refine hK' _ _ ?_ | refine ⟨?_, hK' _ _ ?_⟩) <;> clear hK' K' <;> (first | (show alist _ _ _ _ _ _; skip) | (simp; done))))); all_goals (refine al_nil ?_; (simp only [go_sem, simprocAttr, he]); refine hK _ ?_; clear hK K))
    refine awp_born_box 0 0 1 rfl rfl ?_
    simp only [go_sem, simprocAttr, he]
    (refine awp_frz [4, 5, 6] [0, 1] (by decide) (by (simp; done)) ?_; simp only [go_sem, simprocAttr, he])
    refine awp_ret (hR _ _ (.inl rfl) rfl ⟨[1], (.tup [.agg [.ref 1 0 0, iD 0, .nil], words [], iD e]), by decide, by simp only [List.length_cons, List.length_nil]; decide, ?_, ?_⟩)
    · (simp only [go_sem, simprocAttr, he]; try rfl)
    · refine ⟨?_, ?_⟩
      · (simp only [go_sem, simprocAttr, he]; try rfl)
      · simp only [go_sem, simprocAttr, he]
  · cases hc


theorem majorE (h : List Int) (old e : Int) (late ws : List Int) (he : (e != 0) = true) (hnm : ACallP Try.prog 66 [agesD h old late, words ws] (iD e)) : ACalls Try.prog 39 [agesD h old late, words ws] [] (fun r obs' => r = .tup [.agg [.ref 0 0 0, iD 0, .nil], words [], iD e] ∧ obs' = [.row 1 []]) := by
  refine acallm_fnv [.cell 4 64, .tmp 5, .tmp 6] Try.func39 rfl rfl Try.ntmps39 (by simp) (by simp) fun R hR => ?_
  (refine awp_reg_seq [1, 2, 4] fun K hK => ?_; (repeat' ((refine al_r rfl fun K' hK' => ?_); (repeat (simp only [go_sem, simprocAttr, he])); ((refine hK' _ _ ?_) <;> clear hK' K'))); all_goals (refine al_nil ?_; (simp only [go_sem, simprocAttr, he]); refine hK _ ?_; clear hK K))
  (refine awp_frz [1, 2, 4] [1] (by decide) (by (simp; done)) ?_; simp only [go_sem, simprocAttr, he])
  refine awp_seq_k fun K hK => ?_
  (refine awp_reg_seq [1, 2, 4, 7] fun K hK => ?_; (repeat' ((refine al_r rfl fun K' hK' => ?_); (repeat (simp only [go_sem, simprocAttr, he])); (first | ((refine hK' _ _ ?_) <;> clear hK' K') | ((show AC _ _ (D.fn 66 _) _ _); refine acall_g (f := 66) (e := rfl) (hr := rfl) (hf := by simp [D.all, D.allL, flatL, flatPV]) (k := hK' _ _ ?_) (hc := Try.call66) (h := hnm); clear hK' K')))); all_goals (refine al_nil ?_; (simp only [go_sem, simprocAttr, he]); refine hK _ ?_; clear hK K))
  (refine awp_reg_seq [1, 2, 4, 7, 14] fun K hK => ?_; (repeat' ((refine al_r rfl fun K' hK' => ?_); (repeat (simp only [go_sem, simprocAttr, he])); ((refine hK' _ _ ?_) <;> clear hK' K'))); all_goals (refine al_nil ?_; (simp only [go_sem, simprocAttr, he]); refine hK _ ?_; clear hK K))
  refine awp_if (_) rfl (fun hc => ?_) (fun hc => ?_)
  · (refine awp_reg_seq [4, 5, 6] fun K hK => ?_; (repeat' ((first | refine al_r rfl fun K' hK' => ?_ | refine al_d rfl fun K' hK' => ?_); (repeat (first | (simp only [go_sem, simprocAttr, he]) | refine AS.mk ?_)); ((first | refine hK' _ _ ?_ | refine ⟨?_, hK' _ _ ?_⟩) <;> clear hK' K' <;> (first | (show alist _ _ _ _ _ _; skip) | (simp; done))))); all_goals (refine al_nil ?_; (simp only [go_sem, simprocAttr, he]); refine hK _ ?_; clear hK K))
    refine awp_born_box 0 0 1 rfl rfl ?_
    simp only [go_sem, simprocAttr, he]
    (refine awp_frz [4, 5, 6] [0, 1] (by decide) (by (simp; done)) ?_; simp only [go_sem, simprocAttr, he])
    refine awp_ret (hR _ _ (.inl rfl) rfl ⟨[1], (.tup [.agg [.ref 1 0 0, iD 0, .nil], words [], iD e]), by decide, by simp only [List.length_cons, List.length_nil]; decide, ?_, ?_⟩)
    · (simp only [go_sem, simprocAttr, he]; try rfl)
    · refine ⟨?_, ?_⟩
      · (simp only [go_sem, simprocAttr, he]; try rfl)
      · simp only [go_sem, simprocAttr, he]
  · cases hc


set_option maxRecDepth 100000 in
theorem minorH (h : List Int) (n : Nat) (late ws : List Int) (f : Nat) (hnm : ACallP Try.prog 66 [agesD h n late, words ws] (iD 0)) (hg : h.length ≤ 4000) (hn : n ≤ h.length) (hok : ∀ w, w ∈ h → WordOk w) (hws : ws.length ≤ 100000) (hlate : late.length ≤ maxLen)
    (h1 : lateOK h n (h.take n, []) late) (h2 : rootsOK h n (lateC h n (h.take n, []) late) ws) (h3 : scanOK h n f (rootsC h n (lateC h n (h.take n, []) late) ws).2 n) :
    ACalls Try.prog 38 [agesD h n late, words ws] [] (fun r obs' => r = .tup [.agg [.ref 0 0 (scanC h n f (rootsC h n (lateC h n (h.take n, []) late) ws).2 n).1.length, iD (scanC h n f (rootsC h n (lateC h n (h.take n, []) late) ws).2 n).1.length, .nil], words (rootsC h n (lateC h n (h.take n, []) late) ws).1, iD 0] ∧ obs' = [.row 1 ((scanC h n f (rootsC h n (lateC h n (h.take n, []) late) ws).2 n).1.map wrow)]) := by
  have htl : (h.take n).length = n := by rw [List.length_take]; omega
  have e0 : ((h.take n, []) : CS).1.length = n := htl
  have hrun := runCc h n (h.take n, []) late ws f (by simp [maxLen]; omega) hok (by rw [htl]; omega) hlate hws h1 h2 (by rw [e0]; exact h3)
  unfold copA at hrun
  rw [e0] at hrun
  clear h3 h2 h1
  generalize lateC h n (h.take n, []) late = A at hrun ⊢
  have hBl := roots_len h n ws A
  generalize rootsC h n A ws = B at hrun hBl ⊢
  have htB : List.take ws.length (B.1.map wrow) = B.1.map wrow := List.take_of_length_le (by simp [hBl])
  generalize scanC h n f B.2 n = C at hrun ⊢
  have htC : List.take C.1.length (C.1.map wrow) = C.1.map wrow := List.take_of_length_le (by simp)
  have hcl := cloneH (List.take n (h.map wrow)) (fun x hx => wrow1 h x (List.mem_of_mem_take hx)) (by simp; omega)
  have htn : (List.take n (h.map wrow)).length = n := by simp; omega
  rw [htn, ← List.map_take] at hcl
  have hcl : ACalls Try.prog 43 [.p (.sl (List.take n (h.map wrow)))] [] (fun r obs => r = .ref 0 0 n ∧ obs = [.row 1 ((h.take n).map wrow)]) := by rw [← List.map_take]; exact hcl
  have hn0 : (0 : Int) ≤ (n : Int) := Int.natCast_nonneg n
  have hnl : (n : Int) ≤ (h.length : Int) := by omega
  refine acallm_fnv [.cell 4 64, .tmp 5, .tmp 6] Try.func38 rfl rfl Try.ntmps38 (by simp) (by simp) fun R hR => ?_
  (refine awp_reg_seq [1, 2, 4] fun K hK => ?_; (repeat' ((refine al_r rfl fun K' hK' => ?_); (repeat (simp only [go_sem, simprocAttr, bne_self_eq_false, List.length_map])); ((refine hK' _ _ ?_) <;> clear hK' K'))); all_goals (refine al_nil ?_; (simp only [go_sem, simprocAttr, bne_self_eq_false, List.length_map]); refine hK _ ?_; clear hK K))
  (refine awp_frz [1, 2, 4] [1] (by decide) (by (simp; done)) ?_; simp only [go_sem, simprocAttr, bne_self_eq_false, List.length_map])
  refine awp_seq_k fun K hK => ?_
  (refine awp_reg_seq [1, 2, 4, 7] fun K hK => ?_; (repeat' ((refine al_r rfl fun K' hK' => ?_); (repeat (simp only [go_sem, simprocAttr, bne_self_eq_false, List.length_map])); (first | ((refine hK' _ _ ?_) <;> clear hK' K') | ((show AC _ _ (D.fn 66 _) _ _); refine acall_g (f := 66) (e := rfl) (hr := rfl) (hf := by simp [D.all, D.allL, flatL, flatPV]) (k := hK' _ _ ?_) (hc := Try.call66) (h := hnm); clear hK' K')))); all_goals (refine al_nil ?_; (simp only [go_sem, simprocAttr, bne_self_eq_false, List.length_map]); refine hK _ ?_; clear hK K))
  (refine awp_reg_seq [1, 2, 4, 7, 14] fun K hK => ?_; (repeat' ((refine al_r rfl fun K' hK' => ?_); (repeat (simp only [go_sem, simprocAttr, bne_self_eq_false, List.length_map])); ((refine hK' _ _ ?_) <;> clear hK' K'))); all_goals (refine al_nil ?_; (simp only [go_sem, simprocAttr, bne_self_eq_false, List.length_map]); refine hK _ ?_; clear hK K))
  refine awp_if (_) rfl (fun hc => ?_) (fun hc => ?_)
  · cases hc
  · refine awp_skip ?_
    refine hK _ ?_; clear hK K

    refine awp_suff ⟨ofL [(1, words ws), (2, .rd [.sl (h.map wrow), .lit (.int .i64 n), .sl (late.map irow)] 0), (4, .ptr 0 0 0), (8, .ptr 1 0 0)], [.box [.nil, iD 0, .nil], .box [words h, iD n, .ref 2 0 n, .mp 3], .row 1 ((h.take n).map wrow), .map []], 0⟩ ?_ (fun keyA => ?_)
    rotate_left
    · refine awp_draw_seq (by kernel_rfl) [1, 2, 4, 8] fun K hK => ?_
      ((refine ah_r 0 rfl (by kernel_rfl) rfl fun K' hK' => ?_); (simp only [go_sem, simprocAttr, bne_self_eq_false, List.length_map, hn0, hnl, Int.toNat_natCast, List.drop_zero]); ((refine hK' _ ?_); clear hK' K'))
      ((refine ah_r 1 rfl (by kernel_rfl) rfl fun K' hK' => ?_); (simp only [go_sem, simprocAttr, bne_self_eq_false, List.length_map, hn0, hnl, Int.toNat_natCast, List.drop_zero]); ((refine hK' _ ?_); clear hK' K'))
      ((refine ah_r 2 rfl (by kernel_rfl) rfl fun K' hK' => ?_); (simp only [go_sem, simprocAttr, bne_self_eq_false, List.length_map, hn0, hnl, Int.toNat_natCast, List.drop_zero]); ((refine hK' _ ?_); clear hK' K'))
      ((refine ah_r 3 rfl (by kernel_rfl) rfl fun K' hK' => ?_); (simp only [go_sem, simprocAttr, bne_self_eq_false, List.length_map, hn0, hnl, Int.toNat_natCast, List.drop_zero]); ((refine hK' _ ?_); clear hK' K'))
      ((refine ah_r 4 rfl (by kernel_rfl) rfl fun K' hK' => ?_); (simp only [go_sem, simprocAttr, bne_self_eq_false, List.length_map, hn0, hnl, Int.toNat_natCast, List.drop_zero]); ((refine hK' _ ?_); clear hK' K'))
      ((refine ah_r 5 rfl (by kernel_rfl) rfl fun K' hK' => ?_); (simp only [go_sem, simprocAttr, bne_self_eq_false, List.length_map, hn0, hnl, Int.toNat_natCast, List.drop_zero]); ((refine hK' _ ?_); clear hK' K'))
      ((refine ah_r 6 rfl (by kernel_rfl) rfl fun K' hK' => ?_); (simp only [go_sem, simprocAttr, bne_self_eq_false, List.length_map, hn0, hnl, Int.toNat_natCast, List.drop_zero]); ((refine hK' _ ?_); clear hK' K'))
      ((refine ah_r 7 rfl (by kernel_rfl) rfl fun K' hK' => ?_); (simp only [go_sem, simprocAttr, bne_self_eq_false, List.length_map, hn0, hnl, Int.toNat_natCast, List.drop_zero]); ((refine hK' _ ?_); clear hK' K'))
      refine ah_two 8 10 rfl rfl (by kernel_rfl) ?_ ?_
      · ((repeat' ((refine al_r rfl fun K' hK' => ?_); (repeat (simp only [go_sem, simprocAttr, bne_self_eq_false, List.length_map, hn0, hnl, Int.toNat_natCast, List.drop_zero])); ((refine ⟨?_, hK' _ _ ?_⟩) <;> clear hK' K' <;> (first | (show alist _ _ _ _ _ _; skip) | (simp; done))))); all_goals refine al_nil ?_)
        refine ah_two 9 10 rfl rfl (by kernel_rfl) ?_ ?_
        · ((repeat' ((refine al_r rfl fun K' hK' => ?_); (repeat (simp only [go_sem, simprocAttr, bne_self_eq_false, List.length_map, hn0, hnl, Int.toNat_natCast, List.drop_zero])); ((show AC _ _ (D.fn 43 _) _ _); refine acall_new (f := 43) Try.call43 hcl rfl ?_; rintro r obs' ⟨rfl, rfl⟩; (simp only [go_sem, simprocAttr, bne_self_eq_false, List.length_map, hn0, hnl, Int.toNat_natCast, List.drop_zero]); refine hK' _ _ ?_; clear hK' K'))); all_goals refine al_nil ?_)
          (refine ah_one 10 rfl (by kernel_rfl) ?_; (repeat' ((refine al_r rfl fun K' hK' => ?_); (repeat (simp only [go_sem, simprocAttr, bne_self_eq_false, List.length_map, hn0, hnl, Int.toNat_natCast, List.drop_zero])); ((refine hK' _ _ ?_) <;> clear hK' K'))); all_goals refine al_nil ?_)
          (refine ah_one 11 rfl (by kernel_rfl) ?_; (repeat' ((refine al_r rfl fun K' hK' => ?_); (repeat (simp only [go_sem, simprocAttr, bne_self_eq_false, List.length_map, hn0, hnl, Int.toNat_natCast, List.drop_zero])); ((refine hK' _ _ ?_) <;> clear hK' K'))); all_goals refine al_nil ?_)
          (refine ah_one 12 rfl (by kernel_rfl) ?_; (repeat' ((refine al_r rfl fun K' hK' => ?_); (repeat (simp only [go_sem, simprocAttr, bne_self_eq_false, List.length_map, hn0, hnl, Int.toNat_natCast, List.drop_zero])); ((refine hK' _ _ ?_) <;> clear hK' K'))); all_goals refine al_nil ?_)
          ((refine ah_r 13 rfl (by kernel_rfl) rfl fun K' hK' => ?_); (simp only [go_sem, simprocAttr, bne_self_eq_false, List.length_map, hn0, hnl, Int.toNat_natCast, List.drop_zero]); ((refine hK' _ ?_); clear hK' K'))
          (refine ah_done (by kernel_rfl) ?_; (simp only [go_sem, simprocAttr, bne_self_eq_false, List.length_map, hn0, hnl, Int.toNat_natCast, List.drop_zero]); refine hK _ ?_; clear hK K)
          (refine awp_frz [1, 2, 4, 8] [0, 3, 1, 2] (by decide) (by (simp; done)) ?_; simp only [go_sem, simprocAttr, bne_self_eq_false, List.length_map, hn0, hnl, Int.toNat_natCast, List.drop_zero])
          exact keyA
        · ((repeat' ((refine al_r rfl fun K' hK' => ?_); (repeat (simp only [go_sem, simprocAttr, bne_self_eq_false, List.length_map, hn0, hnl, Int.toNat_natCast, List.drop_zero])); ((refine hK' _ _ ?_) <;> clear hK' K'))); all_goals refine al_nil ?_)
          (refine ah_one 9 rfl (by kernel_rfl) ?_; (repeat' ((refine al_r rfl fun K' hK' => ?_); (repeat (simp only [go_sem, simprocAttr, bne_self_eq_false, List.length_map, hn0, hnl, Int.toNat_natCast, List.drop_zero])); ((show AC _ _ (D.fn 43 _) _ _); refine acall_new (f := 43) Try.call43 hcl rfl ?_; rintro r obs' ⟨rfl, rfl⟩; (simp only [go_sem, simprocAttr, bne_self_eq_false, List.length_map, hn0, hnl, Int.toNat_natCast, List.drop_zero]); refine hK' _ _ ?_; clear hK' K'))); all_goals refine al_nil ?_)
          (refine ah_one 11 rfl (by kernel_rfl) ?_; (repeat' ((refine al_r rfl fun K' hK' => ?_); (repeat (simp only [go_sem, simprocAttr, bne_self_eq_false, List.length_map, hn0, hnl, Int.toNat_natCast, List.drop_zero])); ((refine hK' _ _ ?_) <;> clear hK' K'))); all_goals refine al_nil ?_)
          (refine ah_one 12 rfl (by kernel_rfl) ?_; (repeat' ((refine al_r rfl fun K' hK' => ?_); (repeat (simp only [go_sem, simprocAttr, bne_self_eq_false, List.length_map, hn0, hnl, Int.toNat_natCast, List.drop_zero])); ((refine hK' _ _ ?_) <;> clear hK' K'))); all_goals refine al_nil ?_)
          ((refine ah_r 13 rfl (by kernel_rfl) rfl fun K' hK' => ?_); (simp only [go_sem, simprocAttr, bne_self_eq_false, List.length_map, hn0, hnl, Int.toNat_natCast, List.drop_zero]); ((refine hK' _ ?_); clear hK' K'))
          (refine ah_done (by kernel_rfl) ?_; (simp only [go_sem, simprocAttr, bne_self_eq_false, List.length_map, hn0, hnl, Int.toNat_natCast, List.drop_zero]); refine hK _ ?_; clear hK K)
          (refine awp_frz [1, 2, 4, 8] [0, 3, 2, 1] (by decide) (by (simp; done)) ?_; simp only [go_sem, simprocAttr, bne_self_eq_false, List.length_map, hn0, hnl, Int.toNat_natCast, List.drop_zero])
          exact keyA
      · ((repeat' ((refine al_r rfl fun K' hK' => ?_); (repeat (simp only [go_sem, simprocAttr, bne_self_eq_false, List.length_map, hn0, hnl, Int.toNat_natCast, List.drop_zero])); ((refine hK' _ _ ?_) <;> clear hK' K'))); all_goals refine al_nil ?_)
        (refine ah_one 8 rfl (by kernel_rfl) ?_; (repeat' ((refine al_r rfl fun K' hK' => ?_); (repeat (simp only [go_sem, simprocAttr, bne_self_eq_false, List.length_map, hn0, hnl, Int.toNat_natCast, List.drop_zero])); ((refine ⟨?_, hK' _ _ ?_⟩) <;> clear hK' K' <;> (first | (show alist _ _ _ _ _ _; skip) | (simp; done))))); all_goals refine al_nil ?_)
        (refine ah_one 9 rfl (by kernel_rfl) ?_; (repeat' ((refine al_r rfl fun K' hK' => ?_); (repeat (simp only [go_sem, simprocAttr, bne_self_eq_false, List.length_map, hn0, hnl, Int.toNat_natCast, List.drop_zero])); ((show AC _ _ (D.fn 43 _) _ _); refine acall_new (f := 43) Try.call43 hcl rfl ?_; rintro r obs' ⟨rfl, rfl⟩; (simp only [go_sem, simprocAttr, bne_self_eq_false, List.length_map, hn0, hnl, Int.toNat_natCast, List.drop_zero]); refine hK' _ _ ?_; clear hK' K'))); all_goals refine al_nil ?_)
        (refine ah_one 11 rfl (by kernel_rfl) ?_; (repeat' ((refine al_r rfl fun K' hK' => ?_); (repeat (simp only [go_sem, simprocAttr, bne_self_eq_false, List.length_map, hn0, hnl, Int.toNat_natCast, List.drop_zero])); ((refine hK' _ _ ?_) <;> clear hK' K'))); all_goals refine al_nil ?_)
        (refine ah_one 12 rfl (by kernel_rfl) ?_; (repeat' ((refine al_r rfl fun K' hK' => ?_); (repeat (simp only [go_sem, simprocAttr, bne_self_eq_false, List.length_map, hn0, hnl, Int.toNat_natCast, List.drop_zero])); ((refine hK' _ _ ?_) <;> clear hK' K'))); all_goals refine al_nil ?_)
        ((refine ah_r 13 rfl (by kernel_rfl) rfl fun K' hK' => ?_); (simp only [go_sem, simprocAttr, bne_self_eq_false, List.length_map, hn0, hnl, Int.toNat_natCast, List.drop_zero]); ((refine hK' _ ?_); clear hK' K'))
        (refine ah_done (by kernel_rfl) ?_; (simp only [go_sem, simprocAttr, bne_self_eq_false, List.length_map, hn0, hnl, Int.toNat_natCast, List.drop_zero]); refine hK _ ?_; clear hK K)
        (refine awp_frz [1, 2, 4, 8] [0, 3, 2, 1] (by decide) (by (simp; done)) ?_; simp only [go_sem, simprocAttr, bne_self_eq_false, List.length_map, hn0, hnl, Int.toNat_natCast, List.drop_zero])
        exact keyA
    (refine awp_reg_seq [4, 8, 9] fun K hK => ?_; (repeat' ((refine al_r rfl fun K' hK' => ?_); (repeat (simp only [go_sem, simprocAttr, bne_self_eq_false, List.length_map, hn0, hnl, Int.toNat_natCast, List.drop_zero])); (first | ((refine hK' _ _ ?_) <;> clear hK' K') | ((show AC _ _ (D.fn 73 _) _ _); refine acall_m (f := 73) [1, 2, 3] Try.call73 hrun rfl rfl (by decide) (by simp) ?_; rintro r obs' ⟨rfl, rfl⟩; refine ⟨by simp, ?_⟩; (simp only [go_sem, simprocAttr, bne_self_eq_false, List.length_map, hn0, hnl, Int.toNat_natCast, List.drop_zero]); refine hK' _ _ ?_; clear hK' K')))); all_goals (refine al_nil ?_; (simp only [go_sem, simprocAttr, bne_self_eq_false, List.length_map, hn0, hnl, Int.toNat_natCast, List.drop_zero]); refine hK _ ?_; clear hK K))
    refine awp_draw_seq (by kernel_rfl) [4, 5, 6] fun K hK => ?_
    ((refine ah_r 0 rfl (by kernel_rfl) rfl fun K' hK' => ?_); (simp only [go_sem, simprocAttr, bne_self_eq_false, List.length_map, hn0, hnl, Int.toNat_natCast, List.drop_zero]); ((refine hK' _ ?_); clear hK' K'))
    ((refine ah_r 4 rfl (by kernel_rfl) rfl fun K' hK' => ?_); (simp only [go_sem, simprocAttr, bne_self_eq_false, List.length_map, hn0, hnl, Int.toNat_natCast, List.drop_zero]); ((refine hK' _ ?_); clear hK' K'))
    ((refine ah_r 10 rfl (by kernel_rfl) rfl fun K' hK' => ?_); (simp only [go_sem, simprocAttr, bne_self_eq_false, List.length_map, hn0, hnl, Int.toNat_natCast, List.drop_zero]); ((refine hK' _ ?_); clear hK' K'))
    refine ah_two 1 5 rfl rfl (by kernel_rfl) ?_ ?_
    · ((repeat' ((refine al_r rfl fun K' hK' => ?_); (repeat (simp only [go_sem, simprocAttr, bne_self_eq_false, List.length_map, hn0, hnl, Int.toNat_natCast, List.drop_zero])); ((refine hK' _ _ ?_) <;> clear hK' K'))); all_goals refine al_nil ?_)
      ((refine ah_r 2 rfl (by kernel_rfl) rfl fun K' hK' => ?_); (simp only [go_sem, simprocAttr, bne_self_eq_false, List.length_map, hn0, hnl, Int.toNat_natCast, List.drop_zero]); ((refine hK' _ ?_); clear hK' K'))
      refine ah_two 3 5 rfl rfl (by kernel_rfl) ?_ ?_
      · ((repeat' ((refine al_r rfl fun K' hK' => ?_); (repeat (simp only [go_sem, simprocAttr, bne_self_eq_false, List.length_map, hn0, hnl, Int.toNat_natCast, List.drop_zero])); ((refine hK' _ _ ?_) <;> clear hK' K'))); all_goals refine al_nil ?_)
        (refine ah_one 5 rfl (by kernel_rfl) ?_; (repeat' ((refine al_r rfl fun K' hK' => ?_); (repeat (simp only [go_sem, simprocAttr, bne_self_eq_false, List.length_map, hn0, hnl, Int.toNat_natCast, List.drop_zero])); ((refine hK' _ _ ?_) <;> clear hK' K'))); all_goals refine al_nil ?_)
        ((refine ah_r 6 rfl (by kernel_rfl) rfl fun K' hK' => ?_); (simp only [go_sem, simprocAttr, bne_self_eq_false, List.length_map, hn0, hnl, Int.toNat_natCast, List.drop_zero]); ((refine hK' _ ?_); clear hK' K'))
        (refine ah_one 7 rfl (by kernel_rfl) ?_; (repeat' ((refine al_r rfl fun K' hK' => ?_); (repeat (simp only [go_sem, simprocAttr, bne_self_eq_false, List.length_map, hn0, hnl, Int.toNat_natCast, List.drop_zero])); ((refine hK' _ _ ?_) <;> clear hK' K'))); all_goals refine al_nil ?_)
        ((refine ah_r 8 rfl (by kernel_rfl) rfl fun K' hK' => ?_); (simp only [go_sem, simprocAttr, bne_self_eq_false, List.length_map, hn0, hnl, Int.toNat_natCast, List.drop_zero]); ((refine ⟨?_, hK' _ ?_⟩) <;> clear hK' K' <;> (first | (intro s hs; cases hs; done) | skip)))
        (refine ah_one 9 rfl (by kernel_rfl) ?_; (repeat' ((refine al_r rfl fun K' hK' => ?_); (repeat (simp only [go_sem, simprocAttr, bne_self_eq_false, List.length_map, hn0, hnl, Int.toNat_natCast, List.drop_zero])); ((refine hK' _ _ ?_) <;> clear hK' K'))); all_goals refine al_nil ?_)
        (refine ah_one 11 rfl (by kernel_rfl) ?_; (repeat' ((refine al_d rfl fun K' hK' => ?_); (repeat (first | (simp only [go_sem, simprocAttr, bne_self_eq_false, List.length_map, hn0, hnl, Int.toNat_natCast, List.drop_zero]) | refine AS.mk ?_)); ((refine ⟨?_, hK' _ _ ?_⟩) <;> clear hK' K' <;> (first | (show alist _ _ _ _ _ _; skip) | (simp; done))))); all_goals refine al_nil ?_)
        ((refine ah_r 12 rfl (by kernel_rfl) rfl fun K' hK' => ?_); (simp only [go_sem, simprocAttr, bne_self_eq_false, List.length_map, hn0, hnl, Int.toNat_natCast, List.drop_zero]); ((refine hK' _ ?_); clear hK' K'))
        ((refine ah_r 13 rfl (by kernel_rfl) rfl fun K' hK' => ?_); (simp only [go_sem, simprocAttr, bne_self_eq_false, List.length_map, hn0, hnl, Int.toNat_natCast, List.drop_zero]); ((refine hK' _ ?_); clear hK' K'))
        (refine ah_done (by kernel_rfl) ?_; (simp only [go_sem, simprocAttr, bne_self_eq_false, List.length_map, hn0, hnl, Int.toNat_natCast, List.drop_zero]); refine hK _ ?_; clear hK K)
        (refine awp_frz [4, 5, 6] [0, 4] (by decide) (by (simp; done)) ?_; simp only [go_sem, simprocAttr, bne_self_eq_false, List.length_map, hn0, hnl, Int.toNat_natCast, List.drop_zero])
        simp only [htB]
        refine awp_ret (hR _ _ (.inl rfl) rfl ⟨[1], (.tup [.agg [.ref 1 0 C.1.length, iD C.1.length, .nil], words B.1, iD 0]), by decide, by simp only [List.length_cons, List.length_nil]; decide, ?_, ?_⟩)
        · simp only [go_sem, simprocAttr, bne_self_eq_false, List.length_map, hn0, hnl, Int.toNat_natCast, List.drop_zero]
        · refine ⟨?_, ?_⟩ <;> simp only [go_sem, simprocAttr, bne_self_eq_false, List.length_map, hn0, hnl, Int.toNat_natCast, List.drop_zero]
      · ((repeat' ((refine al_r rfl fun K' hK' => ?_); (repeat (simp only [go_sem, simprocAttr, bne_self_eq_false, List.length_map, hn0, hnl, Int.toNat_natCast, List.drop_zero])); ((refine hK' _ _ ?_) <;> clear hK' K'))); all_goals refine al_nil ?_)
        ((refine ah_r 6 rfl (by kernel_rfl) rfl fun K' hK' => ?_); (simp only [go_sem, simprocAttr, bne_self_eq_false, List.length_map, hn0, hnl, Int.toNat_natCast, List.drop_zero]); ((refine hK' _ ?_); clear hK' K'))
        refine ah_two 3 7 rfl rfl (by kernel_rfl) ?_ ?_
        · ((repeat' ((refine al_r rfl fun K' hK' => ?_); (repeat (simp only [go_sem, simprocAttr, bne_self_eq_false, List.length_map, hn0, hnl, Int.toNat_natCast, List.drop_zero])); ((refine hK' _ _ ?_) <;> clear hK' K'))); all_goals refine al_nil ?_)
          (refine ah_one 7 rfl (by kernel_rfl) ?_; (repeat' ((refine al_r rfl fun K' hK' => ?_); (repeat (simp only [go_sem, simprocAttr, bne_self_eq_false, List.length_map, hn0, hnl, Int.toNat_natCast, List.drop_zero])); ((refine hK' _ _ ?_) <;> clear hK' K'))); all_goals refine al_nil ?_)
          ((refine ah_r 8 rfl (by kernel_rfl) rfl fun K' hK' => ?_); (simp only [go_sem, simprocAttr, bne_self_eq_false, List.length_map, hn0, hnl, Int.toNat_natCast, List.drop_zero]); ((refine ⟨?_, hK' _ ?_⟩) <;> clear hK' K' <;> (first | (intro s hs; cases hs; done) | skip)))
          (refine ah_one 9 rfl (by kernel_rfl) ?_; (repeat' ((refine al_r rfl fun K' hK' => ?_); (repeat (simp only [go_sem, simprocAttr, bne_self_eq_false, List.length_map, hn0, hnl, Int.toNat_natCast, List.drop_zero])); ((refine hK' _ _ ?_) <;> clear hK' K'))); all_goals refine al_nil ?_)
          (refine ah_one 11 rfl (by kernel_rfl) ?_; (repeat' ((refine al_d rfl fun K' hK' => ?_); (repeat (first | (simp only [go_sem, simprocAttr, bne_self_eq_false, List.length_map, hn0, hnl, Int.toNat_natCast, List.drop_zero]) | refine AS.mk ?_)); ((refine ⟨?_, hK' _ _ ?_⟩) <;> clear hK' K' <;> (first | (show alist _ _ _ _ _ _; skip) | (simp; done))))); all_goals refine al_nil ?_)
          ((refine ah_r 12 rfl (by kernel_rfl) rfl fun K' hK' => ?_); (simp only [go_sem, simprocAttr, bne_self_eq_false, List.length_map, hn0, hnl, Int.toNat_natCast, List.drop_zero]); ((refine hK' _ ?_); clear hK' K'))
          ((refine ah_r 13 rfl (by kernel_rfl) rfl fun K' hK' => ?_); (simp only [go_sem, simprocAttr, bne_self_eq_false, List.length_map, hn0, hnl, Int.toNat_natCast, List.drop_zero]); ((refine hK' _ ?_); clear hK' K'))
          (refine ah_done (by kernel_rfl) ?_; (simp only [go_sem, simprocAttr, bne_self_eq_false, List.length_map, hn0, hnl, Int.toNat_natCast, List.drop_zero]); refine hK _ ?_; clear hK K)
          (refine awp_frz [4, 5, 6] [0, 4] (by decide) (by (simp; done)) ?_; simp only [go_sem, simprocAttr, bne_self_eq_false, List.length_map, hn0, hnl, Int.toNat_natCast, List.drop_zero])
          simp only [htB]
          refine awp_ret (hR _ _ (.inl rfl) rfl ⟨[1], (.tup [.agg [.ref 1 0 C.1.length, iD C.1.length, .nil], words B.1, iD 0]), by decide, by simp only [List.length_cons, List.length_nil]; decide, ?_, ?_⟩)
          · simp only [go_sem, simprocAttr, bne_self_eq_false, List.length_map, hn0, hnl, Int.toNat_natCast, List.drop_zero]
          · refine ⟨?_, ?_⟩ <;> simp only [go_sem, simprocAttr, bne_self_eq_false, List.length_map, hn0, hnl, Int.toNat_natCast, List.drop_zero]
        · ((repeat' ((refine al_r rfl fun K' hK' => ?_); (repeat (simp only [go_sem, simprocAttr, bne_self_eq_false, List.length_map, hn0, hnl, Int.toNat_natCast, List.drop_zero])); ((refine hK' _ _ ?_) <;> clear hK' K'))); all_goals refine al_nil ?_)
          ((refine ah_r 8 rfl (by kernel_rfl) rfl fun K' hK' => ?_); (simp only [go_sem, simprocAttr, bne_self_eq_false, List.length_map, hn0, hnl, Int.toNat_natCast, List.drop_zero]); ((refine ⟨?_, hK' _ ?_⟩) <;> clear hK' K' <;> (first | (intro s hs; cases hs; done) | skip)))
          (refine ah_one 3 rfl (by kernel_rfl) ?_; (repeat' ((refine al_r rfl fun K' hK' => ?_); (repeat (simp only [go_sem, simprocAttr, bne_self_eq_false, List.length_map, hn0, hnl, Int.toNat_natCast, List.drop_zero])); ((refine hK' _ _ ?_) <;> clear hK' K'))); all_goals refine al_nil ?_)
          (refine ah_one 9 rfl (by kernel_rfl) ?_; (repeat' ((refine al_r rfl fun K' hK' => ?_); (repeat (simp only [go_sem, simprocAttr, bne_self_eq_false, List.length_map, hn0, hnl, Int.toNat_natCast, List.drop_zero])); ((refine hK' _ _ ?_) <;> clear hK' K'))); all_goals refine al_nil ?_)
          (refine ah_one 11 rfl (by kernel_rfl) ?_; (repeat' ((refine al_d rfl fun K' hK' => ?_); (repeat (first | (simp only [go_sem, simprocAttr, bne_self_eq_false, List.length_map, hn0, hnl, Int.toNat_natCast, List.drop_zero]) | refine AS.mk ?_)); ((refine ⟨?_, hK' _ _ ?_⟩) <;> clear hK' K' <;> (first | (show alist _ _ _ _ _ _; skip) | (simp; done))))); all_goals refine al_nil ?_)
          ((refine ah_r 12 rfl (by kernel_rfl) rfl fun K' hK' => ?_); (simp only [go_sem, simprocAttr, bne_self_eq_false, List.length_map, hn0, hnl, Int.toNat_natCast, List.drop_zero]); ((refine hK' _ ?_); clear hK' K'))
          ((refine ah_r 13 rfl (by kernel_rfl) rfl fun K' hK' => ?_); (simp only [go_sem, simprocAttr, bne_self_eq_false, List.length_map, hn0, hnl, Int.toNat_natCast, List.drop_zero]); ((refine hK' _ ?_); clear hK' K'))
          (refine ah_done (by kernel_rfl) ?_; (simp only [go_sem, simprocAttr, bne_self_eq_false, List.length_map, hn0, hnl, Int.toNat_natCast, List.drop_zero]); refine hK _ ?_; clear hK K)
          (refine awp_frz [4, 5, 6] [0, 4] (by decide) (by (simp; done)) ?_; simp only [go_sem, simprocAttr, bne_self_eq_false, List.length_map, hn0, hnl, Int.toNat_natCast, List.drop_zero])
          simp only [htB]
          refine awp_ret (hR _ _ (.inl rfl) rfl ⟨[1], (.tup [.agg [.ref 1 0 C.1.length, iD C.1.length, .nil], words B.1, iD 0]), by decide, by simp only [List.length_cons, List.length_nil]; decide, ?_, ?_⟩)
          · simp only [go_sem, simprocAttr, bne_self_eq_false, List.length_map, hn0, hnl, Int.toNat_natCast, List.drop_zero]
          · refine ⟨?_, ?_⟩ <;> simp only [go_sem, simprocAttr, bne_self_eq_false, List.length_map, hn0, hnl, Int.toNat_natCast, List.drop_zero]
    · ((repeat' ((refine al_r rfl fun K' hK' => ?_); (repeat (simp only [go_sem, simprocAttr, bne_self_eq_false, List.length_map, hn0, hnl, Int.toNat_natCast, List.drop_zero])); ((refine hK' _ _ ?_) <;> clear hK' K'))); all_goals refine al_nil ?_)
      ((refine ah_r 6 rfl (by kernel_rfl) rfl fun K' hK' => ?_); (simp only [go_sem, simprocAttr, bne_self_eq_false, List.length_map, hn0, hnl, Int.toNat_natCast, List.drop_zero]); ((refine hK' _ ?_); clear hK' K'))
      refine ah_two 1 7 rfl rfl (by kernel_rfl) ?_ ?_
      · ((repeat' ((refine al_r rfl fun K' hK' => ?_); (repeat (simp only [go_sem, simprocAttr, bne_self_eq_false, List.length_map, hn0, hnl, Int.toNat_natCast, List.drop_zero])); ((refine hK' _ _ ?_) <;> clear hK' K'))); all_goals refine al_nil ?_)
        ((refine ah_r 2 rfl (by kernel_rfl) rfl fun K' hK' => ?_); (simp only [go_sem, simprocAttr, bne_self_eq_false, List.length_map, hn0, hnl, Int.toNat_natCast, List.drop_zero]); ((refine hK' _ ?_); clear hK' K'))
        refine ah_two 3 7 rfl rfl (by kernel_rfl) ?_ ?_
        · ((repeat' ((refine al_r rfl fun K' hK' => ?_); (repeat (simp only [go_sem, simprocAttr, bne_self_eq_false, List.length_map, hn0, hnl, Int.toNat_natCast, List.drop_zero])); ((refine hK' _ _ ?_) <;> clear hK' K'))); all_goals refine al_nil ?_)
          (refine ah_one 7 rfl (by kernel_rfl) ?_; (repeat' ((refine al_r rfl fun K' hK' => ?_); (repeat (simp only [go_sem, simprocAttr, bne_self_eq_false, List.length_map, hn0, hnl, Int.toNat_natCast, List.drop_zero])); ((refine hK' _ _ ?_) <;> clear hK' K'))); all_goals refine al_nil ?_)
          ((refine ah_r 8 rfl (by kernel_rfl) rfl fun K' hK' => ?_); (simp only [go_sem, simprocAttr, bne_self_eq_false, List.length_map, hn0, hnl, Int.toNat_natCast, List.drop_zero]); ((refine ⟨?_, hK' _ ?_⟩) <;> clear hK' K' <;> (first | (intro s hs; cases hs; done) | skip)))
          (refine ah_one 9 rfl (by kernel_rfl) ?_; (repeat' ((refine al_r rfl fun K' hK' => ?_); (repeat (simp only [go_sem, simprocAttr, bne_self_eq_false, List.length_map, hn0, hnl, Int.toNat_natCast, List.drop_zero])); ((refine hK' _ _ ?_) <;> clear hK' K'))); all_goals refine al_nil ?_)
          (refine ah_one 11 rfl (by kernel_rfl) ?_; (repeat' ((refine al_d rfl fun K' hK' => ?_); (repeat (first | (simp only [go_sem, simprocAttr, bne_self_eq_false, List.length_map, hn0, hnl, Int.toNat_natCast, List.drop_zero]) | refine AS.mk ?_)); ((refine ⟨?_, hK' _ _ ?_⟩) <;> clear hK' K' <;> (first | (show alist _ _ _ _ _ _; skip) | (simp; done))))); all_goals refine al_nil ?_)
          ((refine ah_r 12 rfl (by kernel_rfl) rfl fun K' hK' => ?_); (simp only [go_sem, simprocAttr, bne_self_eq_false, List.length_map, hn0, hnl, Int.toNat_natCast, List.drop_zero]); ((refine hK' _ ?_); clear hK' K'))
          ((refine ah_r 13 rfl (by kernel_rfl) rfl fun K' hK' => ?_); (simp only [go_sem, simprocAttr, bne_self_eq_false, List.length_map, hn0, hnl, Int.toNat_natCast, List.drop_zero]); ((refine hK' _ ?_); clear hK' K'))
          (refine ah_done (by kernel_rfl) ?_; (simp only [go_sem, simprocAttr, bne_self_eq_false, List.length_map, hn0, hnl, Int.toNat_natCast, List.drop_zero]); refine hK _ ?_; clear hK K)
          (refine awp_frz [4, 5, 6] [0, 4] (by decide) (by (simp; done)) ?_; simp only [go_sem, simprocAttr, bne_self_eq_false, List.length_map, hn0, hnl, Int.toNat_natCast, List.drop_zero])
          simp only [htB]
          refine awp_ret (hR _ _ (.inl rfl) rfl ⟨[1], (.tup [.agg [.ref 1 0 C.1.length, iD C.1.length, .nil], words B.1, iD 0]), by decide, by simp only [List.length_cons, List.length_nil]; decide, ?_, ?_⟩)
          · simp only [go_sem, simprocAttr, bne_self_eq_false, List.length_map, hn0, hnl, Int.toNat_natCast, List.drop_zero]
          · refine ⟨?_, ?_⟩ <;> simp only [go_sem, simprocAttr, bne_self_eq_false, List.length_map, hn0, hnl, Int.toNat_natCast, List.drop_zero]
        · ((repeat' ((refine al_r rfl fun K' hK' => ?_); (repeat (simp only [go_sem, simprocAttr, bne_self_eq_false, List.length_map, hn0, hnl, Int.toNat_natCast, List.drop_zero])); ((refine hK' _ _ ?_) <;> clear hK' K'))); all_goals refine al_nil ?_)
          ((refine ah_r 8 rfl (by kernel_rfl) rfl fun K' hK' => ?_); (simp only [go_sem, simprocAttr, bne_self_eq_false, List.length_map, hn0, hnl, Int.toNat_natCast, List.drop_zero]); ((refine ⟨?_, hK' _ ?_⟩) <;> clear hK' K' <;> (first | (intro s hs; cases hs; done) | skip)))
          (refine ah_one 3 rfl (by kernel_rfl) ?_; (repeat' ((refine al_r rfl fun K' hK' => ?_); (repeat (simp only [go_sem, simprocAttr, bne_self_eq_false, List.length_map, hn0, hnl, Int.toNat_natCast, List.drop_zero])); ((refine hK' _ _ ?_) <;> clear hK' K'))); all_goals refine al_nil ?_)
          (refine ah_one 9 rfl (by kernel_rfl) ?_; (repeat' ((refine al_r rfl fun K' hK' => ?_); (repeat (simp only [go_sem, simprocAttr, bne_self_eq_false, List.length_map, hn0, hnl, Int.toNat_natCast, List.drop_zero])); ((refine hK' _ _ ?_) <;> clear hK' K'))); all_goals refine al_nil ?_)
          (refine ah_one 11 rfl (by kernel_rfl) ?_; (repeat' ((refine al_d rfl fun K' hK' => ?_); (repeat (first | (simp only [go_sem, simprocAttr, bne_self_eq_false, List.length_map, hn0, hnl, Int.toNat_natCast, List.drop_zero]) | refine AS.mk ?_)); ((refine ⟨?_, hK' _ _ ?_⟩) <;> clear hK' K' <;> (first | (show alist _ _ _ _ _ _; skip) | (simp; done))))); all_goals refine al_nil ?_)
          ((refine ah_r 12 rfl (by kernel_rfl) rfl fun K' hK' => ?_); (simp only [go_sem, simprocAttr, bne_self_eq_false, List.length_map, hn0, hnl, Int.toNat_natCast, List.drop_zero]); ((refine hK' _ ?_); clear hK' K'))
          ((refine ah_r 13 rfl (by kernel_rfl) rfl fun K' hK' => ?_); (simp only [go_sem, simprocAttr, bne_self_eq_false, List.length_map, hn0, hnl, Int.toNat_natCast, List.drop_zero]); ((refine hK' _ ?_); clear hK' K'))
          (refine ah_done (by kernel_rfl) ?_; (simp only [go_sem, simprocAttr, bne_self_eq_false, List.length_map, hn0, hnl, Int.toNat_natCast, List.drop_zero]); refine hK _ ?_; clear hK K)
          (refine awp_frz [4, 5, 6] [0, 4] (by decide) (by (simp; done)) ?_; simp only [go_sem, simprocAttr, bne_self_eq_false, List.length_map, hn0, hnl, Int.toNat_natCast, List.drop_zero])
          simp only [htB]
          refine awp_ret (hR _ _ (.inl rfl) rfl ⟨[1], (.tup [.agg [.ref 1 0 C.1.length, iD C.1.length, .nil], words B.1, iD 0]), by decide, by simp only [List.length_cons, List.length_nil]; decide, ?_, ?_⟩)
          · simp only [go_sem, simprocAttr, bne_self_eq_false, List.length_map, hn0, hnl, Int.toNat_natCast, List.drop_zero]
          · refine ⟨?_, ?_⟩ <;> simp only [go_sem, simprocAttr, bne_self_eq_false, List.length_map, hn0, hnl, Int.toNat_natCast, List.drop_zero]
      · ((repeat' ((refine al_r rfl fun K' hK' => ?_); (repeat (simp only [go_sem, simprocAttr, bne_self_eq_false, List.length_map, hn0, hnl, Int.toNat_natCast, List.drop_zero])); ((refine hK' _ _ ?_) <;> clear hK' K'))); all_goals refine al_nil ?_)
        ((refine ah_r 8 rfl (by kernel_rfl) rfl fun K' hK' => ?_); (simp only [go_sem, simprocAttr, bne_self_eq_false, List.length_map, hn0, hnl, Int.toNat_natCast, List.drop_zero]); ((refine ⟨?_, hK' _ ?_⟩) <;> clear hK' K' <;> (first | (intro s hs; cases hs; done) | skip)))
        (refine ah_one 1 rfl (by kernel_rfl) ?_; (repeat' ((refine al_r rfl fun K' hK' => ?_); (repeat (simp only [go_sem, simprocAttr, bne_self_eq_false, List.length_map, hn0, hnl, Int.toNat_natCast, List.drop_zero])); ((refine hK' _ _ ?_) <;> clear hK' K'))); all_goals refine al_nil ?_)
        ((refine ah_r 2 rfl (by kernel_rfl) rfl fun K' hK' => ?_); (simp only [go_sem, simprocAttr, bne_self_eq_false, List.length_map, hn0, hnl, Int.toNat_natCast, List.drop_zero]); ((refine hK' _ ?_); clear hK' K'))
        (refine ah_one 3 rfl (by kernel_rfl) ?_; (repeat' ((refine al_r rfl fun K' hK' => ?_); (repeat (simp only [go_sem, simprocAttr, bne_self_eq_false, List.length_map, hn0, hnl, Int.toNat_natCast, List.drop_zero])); ((refine hK' _ _ ?_) <;> clear hK' K'))); all_goals refine al_nil ?_)
        (refine ah_one 9 rfl (by kernel_rfl) ?_; (repeat' ((refine al_r rfl fun K' hK' => ?_); (repeat (simp only [go_sem, simprocAttr, bne_self_eq_false, List.length_map, hn0, hnl, Int.toNat_natCast, List.drop_zero])); ((refine hK' _ _ ?_) <;> clear hK' K'))); all_goals refine al_nil ?_)
        (refine ah_one 11 rfl (by kernel_rfl) ?_; (repeat' ((refine al_d rfl fun K' hK' => ?_); (repeat (first | (simp only [go_sem, simprocAttr, bne_self_eq_false, List.length_map, hn0, hnl, Int.toNat_natCast, List.drop_zero]) | refine AS.mk ?_)); ((refine ⟨?_, hK' _ _ ?_⟩) <;> clear hK' K' <;> (first | (show alist _ _ _ _ _ _; skip) | (simp; done))))); all_goals refine al_nil ?_)
        ((refine ah_r 12 rfl (by kernel_rfl) rfl fun K' hK' => ?_); (simp only [go_sem, simprocAttr, bne_self_eq_false, List.length_map, hn0, hnl, Int.toNat_natCast, List.drop_zero]); ((refine hK' _ ?_); clear hK' K'))
        ((refine ah_r 13 rfl (by kernel_rfl) rfl fun K' hK' => ?_); (simp only [go_sem, simprocAttr, bne_self_eq_false, List.length_map, hn0, hnl, Int.toNat_natCast, List.drop_zero]); ((refine hK' _ ?_); clear hK' K'))
        (refine ah_done (by kernel_rfl) ?_; (simp only [go_sem, simprocAttr, bne_self_eq_false, List.length_map, hn0, hnl, Int.toNat_natCast, List.drop_zero]); refine hK _ ?_; clear hK K)
        (refine awp_frz [4, 5, 6] [0, 4] (by decide) (by (simp; done)) ?_; simp only [go_sem, simprocAttr, bne_self_eq_false, List.length_map, hn0, hnl, Int.toNat_natCast, List.drop_zero])
        simp only [htB]
        refine awp_ret (hR _ _ (.inl rfl) rfl ⟨[1], (.tup [.agg [.ref 1 0 C.1.length, iD C.1.length, .nil], words B.1, iD 0]), by decide, by simp only [List.length_cons, List.length_nil]; decide, ?_, ?_⟩)
        · simp only [go_sem, simprocAttr, bne_self_eq_false, List.length_map, hn0, hnl, Int.toNat_natCast, List.drop_zero]
        · refine ⟨?_, ?_⟩ <;> simp only [go_sem, simprocAttr, bne_self_eq_false, List.length_map, hn0, hnl, Int.toNat_natCast, List.drop_zero]
    skip

set_option maxRecDepth 100000 in
theorem majorH (h : List Int) (old : Int) (late ws : List Int) (f : Nat) (hnm : ACallP Try.prog 66 [agesD h old late, words ws] (iD 0)) (hg : h.length ≤ maxLen) (hok : ∀ w, w ∈ h → WordOk w) (hws : ws.length ≤ 100000)
    (h2 : rootsOK h 0 ([], []) ws) (h3 : scanOK h 0 f (rootsC h 0 ([], []) ws).2 0) :
    ACalls Try.prog 39 [agesD h old late, words ws] [] (fun r obs' => r = .tup [.agg [.ref 0 0 (scanC h 0 f (rootsC h 0 ([], []) ws).2 0).1.length, iD (scanC h 0 f (rootsC h 0 ([], []) ws).2 0).1.length, .nil], words (rootsC h 0 ([], []) ws).1, iD 0] ∧ obs' = [.row 1 ((scanC h 0 f (rootsC h 0 ([], []) ws).2 0).1.map wrow)]) := by
  have hrun0 := runCc h 0 ([], []) [] ws f hg hok (by simp) (by simp [maxLen]) hws (by simp [lateOK]) h2 h3
  have hrun : ACalls Try.prog 73 [.ptr 0 0 0, .nil, words ws] _ _ := ACalls.soft hrun0
  clear hrun0 h3 h2
  rw [late_nil] at hrun
  have hBl := roots_len h 0 ws ([], [])
  generalize rootsC h 0 ([], []) ws = B at hrun hBl ⊢
  have htB : List.take ws.length (B.1.map wrow) = B.1.map wrow := List.take_of_length_le (by simp [hBl])
  have e0 : ((([], []) : CS).1.length) = 0 := rfl
  rw [e0] at hrun
  generalize scanC h 0 f B.2 0 = C at hrun ⊢
  have htC : List.take C.1.length (C.1.map wrow) = C.1.map wrow := List.take_of_length_le (by simp)
  refine acallm_fnv [.cell 4 64, .tmp 5, .tmp 6] Try.func39 rfl rfl Try.ntmps39 (by simp) (by simp) fun R hR => ?_
  (refine awp_reg_seq [1, 2, 4] fun K hK => ?_; (repeat' ((refine al_r rfl fun K' hK' => ?_); (repeat (simp only [go_sem, simprocAttr, bne_self_eq_false, List.length_map])); ((refine hK' _ _ ?_) <;> clear hK' K'))); all_goals (refine al_nil ?_; (simp only [go_sem, simprocAttr, bne_self_eq_false, List.length_map]); refine hK _ ?_; clear hK K))
  (refine awp_frz [1, 2, 4] [1] (by decide) (by (simp; done)) ?_; simp only [go_sem, simprocAttr, bne_self_eq_false, List.length_map])
  refine awp_seq_k fun K hK => ?_
  (refine awp_reg_seq [1, 2, 4, 7] fun K hK => ?_; (repeat' ((refine al_r rfl fun K' hK' => ?_); (repeat (simp only [go_sem, simprocAttr, bne_self_eq_false, List.length_map])); (first | ((refine hK' _ _ ?_) <;> clear hK' K') | ((show AC _ _ (D.fn 66 _) _ _); refine acall_g (f := 66) (e := rfl) (hr := rfl) (hf := by simp [D.all, D.allL, flatL, flatPV]) (k := hK' _ _ ?_) (hc := Try.call66) (h := hnm); clear hK' K')))); all_goals (refine al_nil ?_; (simp only [go_sem, simprocAttr, bne_self_eq_false, List.length_map]); refine hK _ ?_; clear hK K))
  (refine awp_reg_seq [1, 2, 4, 7, 14] fun K hK => ?_; (repeat' ((refine al_r rfl fun K' hK' => ?_); (repeat (simp only [go_sem, simprocAttr, bne_self_eq_false, List.length_map])); ((refine hK' _ _ ?_) <;> clear hK' K'))); all_goals (refine al_nil ?_; (simp only [go_sem, simprocAttr, bne_self_eq_false, List.length_map]); refine hK _ ?_; clear hK K))
  refine awp_if (_) rfl (fun hc => ?_) (fun hc => ?_)
  · cases hc
  · refine awp_skip ?_
    refine hK _ ?_; clear hK K
    (refine awp_reg_seq [1, 4, 8] fun K hK => ?_; (repeat' ((refine al_r rfl fun K' hK' => ?_); (repeat (simp only [go_sem, simprocAttr, bne_self_eq_false, List.length_map])); ((refine hK' _ _ ?_) <;> clear hK' K'))); all_goals (refine al_nil ?_; (simp only [go_sem, simprocAttr, bne_self_eq_false, List.length_map]); refine hK _ ?_; clear hK K))
    refine awp_born_box 2 2 1 rfl rfl ?_
    simp only [go_sem, simprocAttr, bne_self_eq_false, List.length_map]
    (refine awp_reg_seq [4, 8, 9] fun K hK => ?_; (repeat' ((refine al_r rfl fun K' hK' => ?_); (repeat (simp only [go_sem, simprocAttr, bne_self_eq_false, List.length_map])); (first | ((refine hK' _ _ ?_) <;> clear hK' K') | ((show AC _ _ (D.fn 73 _) _ _); refine acall_m (f := 73) [2, 3, 1] Try.call73 hrun rfl rfl (by decide) (by simp) ?_; rintro r obs' ⟨rfl, rfl⟩; refine ⟨by simp, ?_⟩; (simp only [go_sem, simprocAttr, bne_self_eq_false, List.length_map]); refine hK' _ _ ?_; clear hK' K')))); all_goals (refine al_nil ?_; (simp only [go_sem, simprocAttr, bne_self_eq_false, List.length_map]); refine hK _ ?_; clear hK K))
    refine awp_draw_seq (by kernel_rfl) [4, 5, 6] fun K hK => ?_
    ((refine ah_r 0 rfl (by kernel_rfl) rfl fun K' hK' => ?_); (simp only [go_sem, simprocAttr, bne_self_eq_false, List.length_map]); ((refine hK' _ ?_); clear hK' K'))
    ((refine ah_r 4 rfl (by kernel_rfl) rfl fun K' hK' => ?_); (simp only [go_sem, simprocAttr, bne_self_eq_false, List.length_map]); ((refine hK' _ ?_); clear hK' K'))
    ((refine ah_r 10 rfl (by kernel_rfl) rfl fun K' hK' => ?_); (simp only [go_sem, simprocAttr, bne_self_eq_false, List.length_map]); ((refine hK' _ ?_); clear hK' K'))
    refine ah_two 1 5 rfl rfl (by kernel_rfl) ?_ ?_
    · ((repeat' ((refine al_r rfl fun K' hK' => ?_); (repeat (simp only [go_sem, simprocAttr, bne_self_eq_false, List.length_map])); ((refine hK' _ _ ?_) <;> clear hK' K'))); all_goals refine al_nil ?_)
      ((refine ah_r 2 rfl (by kernel_rfl) rfl fun K' hK' => ?_); (simp only [go_sem, simprocAttr, bne_self_eq_false, List.length_map]); ((refine hK' _ ?_); clear hK' K'))
      refine ah_two 3 5 rfl rfl (by kernel_rfl) ?_ ?_
      · ((repeat' ((refine al_r rfl fun K' hK' => ?_); (repeat (simp only [go_sem, simprocAttr, bne_self_eq_false, List.length_map])); ((refine hK' _ _ ?_) <;> clear hK' K'))); all_goals refine al_nil ?_)
        (refine ah_one 5 rfl (by kernel_rfl) ?_; (repeat' ((refine al_r rfl fun K' hK' => ?_); (repeat (simp only [go_sem, simprocAttr, bne_self_eq_false, List.length_map])); ((refine hK' _ _ ?_) <;> clear hK' K'))); all_goals refine al_nil ?_)
        ((refine ah_r 6 rfl (by kernel_rfl) rfl fun K' hK' => ?_); (simp only [go_sem, simprocAttr, bne_self_eq_false, List.length_map]); ((refine hK' _ ?_); clear hK' K'))
        (refine ah_one 7 rfl (by kernel_rfl) ?_; (repeat' ((refine al_r rfl fun K' hK' => ?_); (repeat (simp only [go_sem, simprocAttr, bne_self_eq_false, List.length_map])); ((refine hK' _ _ ?_) <;> clear hK' K'))); all_goals refine al_nil ?_)
        ((refine ah_r 8 rfl (by kernel_rfl) rfl fun K' hK' => ?_); (simp only [go_sem, simprocAttr, bne_self_eq_false, List.length_map]); ((refine ⟨?_, hK' _ ?_⟩) <;> clear hK' K' <;> (first | (intro s hs; cases hs; done) | skip)))
        (refine ah_one 9 rfl (by kernel_rfl) ?_; (repeat' ((refine al_r rfl fun K' hK' => ?_); (repeat (simp only [go_sem, simprocAttr, bne_self_eq_false, List.length_map])); ((refine hK' _ _ ?_) <;> clear hK' K'))); all_goals refine al_nil ?_)
        (refine ah_one 11 rfl (by kernel_rfl) ?_; (repeat' ((refine al_d rfl fun K' hK' => ?_); (repeat (first | (simp only [go_sem, simprocAttr, bne_self_eq_false, List.length_map]) | refine AS.mk ?_)); ((refine ⟨?_, hK' _ _ ?_⟩) <;> clear hK' K' <;> (first | (show alist _ _ _ _ _ _; skip) | (simp; done))))); all_goals refine al_nil ?_)
        ((refine ah_r 12 rfl (by kernel_rfl) rfl fun K' hK' => ?_); (simp only [go_sem, simprocAttr, bne_self_eq_false, List.length_map]); ((refine hK' _ ?_); clear hK' K'))
        ((refine ah_r 13 rfl (by kernel_rfl) rfl fun K' hK' => ?_); (simp only [go_sem, simprocAttr, bne_self_eq_false, List.length_map]); ((refine hK' _ ?_); clear hK' K'))
        (refine ah_done (by kernel_rfl) ?_; (simp only [go_sem, simprocAttr, bne_self_eq_false, List.length_map]); refine hK _ ?_; clear hK K)
        (refine awp_frz [4, 5, 6] [0, 4] (by decide) (by (simp; done)) ?_; simp only [go_sem, simprocAttr, bne_self_eq_false, List.length_map])
        simp only [htB]
        refine awp_ret (hR _ _ (.inl rfl) rfl ⟨[1], (.tup [.agg [.ref 1 0 C.1.length, iD C.1.length, .nil], words B.1, iD 0]), by decide, by simp only [List.length_cons, List.length_nil]; decide, ?_, ?_⟩)
        · simp only [go_sem, simprocAttr, bne_self_eq_false, List.length_map]
        · refine ⟨?_, ?_⟩ <;> simp only [go_sem, simprocAttr, bne_self_eq_false, List.length_map]
      · ((repeat' ((refine al_r rfl fun K' hK' => ?_); (repeat (simp only [go_sem, simprocAttr, bne_self_eq_false, List.length_map])); ((refine hK' _ _ ?_) <;> clear hK' K'))); all_goals refine al_nil ?_)
        ((refine ah_r 6 rfl (by kernel_rfl) rfl fun K' hK' => ?_); (simp only [go_sem, simprocAttr, bne_self_eq_false, List.length_map]); ((refine hK' _ ?_); clear hK' K'))
        refine ah_two 3 7 rfl rfl (by kernel_rfl) ?_ ?_
        · ((repeat' ((refine al_r rfl fun K' hK' => ?_); (repeat (simp only [go_sem, simprocAttr, bne_self_eq_false, List.length_map])); ((refine hK' _ _ ?_) <;> clear hK' K'))); all_goals refine al_nil ?_)
          (refine ah_one 7 rfl (by kernel_rfl) ?_; (repeat' ((refine al_r rfl fun K' hK' => ?_); (repeat (simp only [go_sem, simprocAttr, bne_self_eq_false, List.length_map])); ((refine hK' _ _ ?_) <;> clear hK' K'))); all_goals refine al_nil ?_)
          ((refine ah_r 8 rfl (by kernel_rfl) rfl fun K' hK' => ?_); (simp only [go_sem, simprocAttr, bne_self_eq_false, List.length_map]); ((refine ⟨?_, hK' _ ?_⟩) <;> clear hK' K' <;> (first | (intro s hs; cases hs; done) | skip)))
          (refine ah_one 9 rfl (by kernel_rfl) ?_; (repeat' ((refine al_r rfl fun K' hK' => ?_); (repeat (simp only [go_sem, simprocAttr, bne_self_eq_false, List.length_map])); ((refine hK' _ _ ?_) <;> clear hK' K'))); all_goals refine al_nil ?_)
          (refine ah_one 11 rfl (by kernel_rfl) ?_; (repeat' ((refine al_d rfl fun K' hK' => ?_); (repeat (first | (simp only [go_sem, simprocAttr, bne_self_eq_false, List.length_map]) | refine AS.mk ?_)); ((refine ⟨?_, hK' _ _ ?_⟩) <;> clear hK' K' <;> (first | (show alist _ _ _ _ _ _; skip) | (simp; done))))); all_goals refine al_nil ?_)
          ((refine ah_r 12 rfl (by kernel_rfl) rfl fun K' hK' => ?_); (simp only [go_sem, simprocAttr, bne_self_eq_false, List.length_map]); ((refine hK' _ ?_); clear hK' K'))
          ((refine ah_r 13 rfl (by kernel_rfl) rfl fun K' hK' => ?_); (simp only [go_sem, simprocAttr, bne_self_eq_false, List.length_map]); ((refine hK' _ ?_); clear hK' K'))
          (refine ah_done (by kernel_rfl) ?_; (simp only [go_sem, simprocAttr, bne_self_eq_false, List.length_map]); refine hK _ ?_; clear hK K)
          (refine awp_frz [4, 5, 6] [0, 4] (by decide) (by (simp; done)) ?_; simp only [go_sem, simprocAttr, bne_self_eq_false, List.length_map])
          simp only [htB]
          refine awp_ret (hR _ _ (.inl rfl) rfl ⟨[1], (.tup [.agg [.ref 1 0 C.1.length, iD C.1.length, .nil], words B.1, iD 0]), by decide, by simp only [List.length_cons, List.length_nil]; decide, ?_, ?_⟩)
          · simp only [go_sem, simprocAttr, bne_self_eq_false, List.length_map]
          · refine ⟨?_, ?_⟩ <;> simp only [go_sem, simprocAttr, bne_self_eq_false, List.length_map]
        · ((repeat' ((refine al_r rfl fun K' hK' => ?_); (repeat (simp only [go_sem, simprocAttr, bne_self_eq_false, List.length_map])); ((refine hK' _ _ ?_) <;> clear hK' K'))); all_goals refine al_nil ?_)
          ((refine ah_r 8 rfl (by kernel_rfl) rfl fun K' hK' => ?_); (simp only [go_sem, simprocAttr, bne_self_eq_false, List.length_map]); ((refine ⟨?_, hK' _ ?_⟩) <;> clear hK' K' <;> (first | (intro s hs; cases hs; done) | skip)))
          (refine ah_one 3 rfl (by kernel_rfl) ?_; (repeat' ((refine al_r rfl fun K' hK' => ?_); (repeat (simp only [go_sem, simprocAttr, bne_self_eq_false, List.length_map])); ((refine hK' _ _ ?_) <;> clear hK' K'))); all_goals refine al_nil ?_)
          (refine ah_one 9 rfl (by kernel_rfl) ?_; (repeat' ((refine al_r rfl fun K' hK' => ?_); (repeat (simp only [go_sem, simprocAttr, bne_self_eq_false, List.length_map])); ((refine hK' _ _ ?_) <;> clear hK' K'))); all_goals refine al_nil ?_)
          (refine ah_one 11 rfl (by kernel_rfl) ?_; (repeat' ((refine al_d rfl fun K' hK' => ?_); (repeat (first | (simp only [go_sem, simprocAttr, bne_self_eq_false, List.length_map]) | refine AS.mk ?_)); ((refine ⟨?_, hK' _ _ ?_⟩) <;> clear hK' K' <;> (first | (show alist _ _ _ _ _ _; skip) | (simp; done))))); all_goals refine al_nil ?_)
          ((refine ah_r 12 rfl (by kernel_rfl) rfl fun K' hK' => ?_); (simp only [go_sem, simprocAttr, bne_self_eq_false, List.length_map]); ((refine hK' _ ?_); clear hK' K'))
          ((refine ah_r 13 rfl (by kernel_rfl) rfl fun K' hK' => ?_); (simp only [go_sem, simprocAttr, bne_self_eq_false, List.length_map]); ((refine hK' _ ?_); clear hK' K'))
          (refine ah_done (by kernel_rfl) ?_; (simp only [go_sem, simprocAttr, bne_self_eq_false, List.length_map]); refine hK _ ?_; clear hK K)
          (refine awp_frz [4, 5, 6] [0, 4] (by decide) (by (simp; done)) ?_; simp only [go_sem, simprocAttr, bne_self_eq_false, List.length_map])
          simp only [htB]
          refine awp_ret (hR _ _ (.inl rfl) rfl ⟨[1], (.tup [.agg [.ref 1 0 C.1.length, iD C.1.length, .nil], words B.1, iD 0]), by decide, by simp only [List.length_cons, List.length_nil]; decide, ?_, ?_⟩)
          · simp only [go_sem, simprocAttr, bne_self_eq_false, List.length_map]
          · refine ⟨?_, ?_⟩ <;> simp only [go_sem, simprocAttr, bne_self_eq_false, List.length_map]
    · ((repeat' ((refine al_r rfl fun K' hK' => ?_); (repeat (simp only [go_sem, simprocAttr, bne_self_eq_false, List.length_map])); ((refine hK' _ _ ?_) <;> clear hK' K'))); all_goals refine al_nil ?_)
      ((refine ah_r 6 rfl (by kernel_rfl) rfl fun K' hK' => ?_); (simp only [go_sem, simprocAttr, bne_self_eq_false, List.length_map]); ((refine hK' _ ?_); clear hK' K'))
      refine ah_two 1 7 rfl rfl (by kernel_rfl) ?_ ?_
      · ((repeat' ((refine al_r rfl fun K' hK' => ?_); (repeat (simp only [go_sem, simprocAttr, bne_self_eq_false, List.length_map])); ((refine hK' _ _ ?_) <;> clear hK' K'))); all_goals refine al_nil ?_)
        ((refine ah_r 2 rfl (by kernel_rfl) rfl fun K' hK' => ?_); (simp only [go_sem, simprocAttr, bne_self_eq_false, List.length_map]); ((refine hK' _ ?_); clear hK' K'))
        refine ah_two 3 7 rfl rfl (by kernel_rfl) ?_ ?_
        · ((repeat' ((refine al_r rfl fun K' hK' => ?_); (repeat (simp only [go_sem, simprocAttr, bne_self_eq_false, List.length_map])); ((refine hK' _ _ ?_) <;> clear hK' K'))); all_goals refine al_nil ?_)
          (refine ah_one 7 rfl (by kernel_rfl) ?_; (repeat' ((refine al_r rfl fun K' hK' => ?_); (repeat (simp only [go_sem, simprocAttr, bne_self_eq_false, List.length_map])); ((refine hK' _ _ ?_) <;> clear hK' K'))); all_goals refine al_nil ?_)
          ((refine ah_r 8 rfl (by kernel_rfl) rfl fun K' hK' => ?_); (simp only [go_sem, simprocAttr, bne_self_eq_false, List.length_map]); ((refine ⟨?_, hK' _ ?_⟩) <;> clear hK' K' <;> (first | (intro s hs; cases hs; done) | skip)))
          (refine ah_one 9 rfl (by kernel_rfl) ?_; (repeat' ((refine al_r rfl fun K' hK' => ?_); (repeat (simp only [go_sem, simprocAttr, bne_self_eq_false, List.length_map])); ((refine hK' _ _ ?_) <;> clear hK' K'))); all_goals refine al_nil ?_)
          (refine ah_one 11 rfl (by kernel_rfl) ?_; (repeat' ((refine al_d rfl fun K' hK' => ?_); (repeat (first | (simp only [go_sem, simprocAttr, bne_self_eq_false, List.length_map]) | refine AS.mk ?_)); ((refine ⟨?_, hK' _ _ ?_⟩) <;> clear hK' K' <;> (first | (show alist _ _ _ _ _ _; skip) | (simp; done))))); all_goals refine al_nil ?_)
          ((refine ah_r 12 rfl (by kernel_rfl) rfl fun K' hK' => ?_); (simp only [go_sem, simprocAttr, bne_self_eq_false, List.length_map]); ((refine hK' _ ?_); clear hK' K'))
          ((refine ah_r 13 rfl (by kernel_rfl) rfl fun K' hK' => ?_); (simp only [go_sem, simprocAttr, bne_self_eq_false, List.length_map]); ((refine hK' _ ?_); clear hK' K'))
          (refine ah_done (by kernel_rfl) ?_; (simp only [go_sem, simprocAttr, bne_self_eq_false, List.length_map]); refine hK _ ?_; clear hK K)
          (refine awp_frz [4, 5, 6] [0, 4] (by decide) (by (simp; done)) ?_; simp only [go_sem, simprocAttr, bne_self_eq_false, List.length_map])
          simp only [htB]
          refine awp_ret (hR _ _ (.inl rfl) rfl ⟨[1], (.tup [.agg [.ref 1 0 C.1.length, iD C.1.length, .nil], words B.1, iD 0]), by decide, by simp only [List.length_cons, List.length_nil]; decide, ?_, ?_⟩)
          · simp only [go_sem, simprocAttr, bne_self_eq_false, List.length_map]
          · refine ⟨?_, ?_⟩ <;> simp only [go_sem, simprocAttr, bne_self_eq_false, List.length_map]
        · ((repeat' ((refine al_r rfl fun K' hK' => ?_); (repeat (simp only [go_sem, simprocAttr, bne_self_eq_false, List.length_map])); ((refine hK' _ _ ?_) <;> clear hK' K'))); all_goals refine al_nil ?_)
          ((refine ah_r 8 rfl (by kernel_rfl) rfl fun K' hK' => ?_); (simp only [go_sem, simprocAttr, bne_self_eq_false, List.length_map]); ((refine ⟨?_, hK' _ ?_⟩) <;> clear hK' K' <;> (first | (intro s hs; cases hs; done) | skip)))
          (refine ah_one 3 rfl (by kernel_rfl) ?_; (repeat' ((refine al_r rfl fun K' hK' => ?_); (repeat (simp only [go_sem, simprocAttr, bne_self_eq_false, List.length_map])); ((refine hK' _ _ ?_) <;> clear hK' K'))); all_goals refine al_nil ?_)
          (refine ah_one 9 rfl (by kernel_rfl) ?_; (repeat' ((refine al_r rfl fun K' hK' => ?_); (repeat (simp only [go_sem, simprocAttr, bne_self_eq_false, List.length_map])); ((refine hK' _ _ ?_) <;> clear hK' K'))); all_goals refine al_nil ?_)
          (refine ah_one 11 rfl (by kernel_rfl) ?_; (repeat' ((refine al_d rfl fun K' hK' => ?_); (repeat (first | (simp only [go_sem, simprocAttr, bne_self_eq_false, List.length_map]) | refine AS.mk ?_)); ((refine ⟨?_, hK' _ _ ?_⟩) <;> clear hK' K' <;> (first | (show alist _ _ _ _ _ _; skip) | (simp; done))))); all_goals refine al_nil ?_)
          ((refine ah_r 12 rfl (by kernel_rfl) rfl fun K' hK' => ?_); (simp only [go_sem, simprocAttr, bne_self_eq_false, List.length_map]); ((refine hK' _ ?_); clear hK' K'))
          ((refine ah_r 13 rfl (by kernel_rfl) rfl fun K' hK' => ?_); (simp only [go_sem, simprocAttr, bne_self_eq_false, List.length_map]); ((refine hK' _ ?_); clear hK' K'))
          (refine ah_done (by kernel_rfl) ?_; (simp only [go_sem, simprocAttr, bne_self_eq_false, List.length_map]); refine hK _ ?_; clear hK K)
          (refine awp_frz [4, 5, 6] [0, 4] (by decide) (by (simp; done)) ?_; simp only [go_sem, simprocAttr, bne_self_eq_false, List.length_map])
          simp only [htB]
          refine awp_ret (hR _ _ (.inl rfl) rfl ⟨[1], (.tup [.agg [.ref 1 0 C.1.length, iD C.1.length, .nil], words B.1, iD 0]), by decide, by simp only [List.length_cons, List.length_nil]; decide, ?_, ?_⟩)
          · simp only [go_sem, simprocAttr, bne_self_eq_false, List.length_map]
          · refine ⟨?_, ?_⟩ <;> simp only [go_sem, simprocAttr, bne_self_eq_false, List.length_map]
      · ((repeat' ((refine al_r rfl fun K' hK' => ?_); (repeat (simp only [go_sem, simprocAttr, bne_self_eq_false, List.length_map])); ((refine hK' _ _ ?_) <;> clear hK' K'))); all_goals refine al_nil ?_)
        ((refine ah_r 8 rfl (by kernel_rfl) rfl fun K' hK' => ?_); (simp only [go_sem, simprocAttr, bne_self_eq_false, List.length_map]); ((refine ⟨?_, hK' _ ?_⟩) <;> clear hK' K' <;> (first | (intro s hs; cases hs; done) | skip)))
        (refine ah_one 1 rfl (by kernel_rfl) ?_; (repeat' ((refine al_r rfl fun K' hK' => ?_); (repeat (simp only [go_sem, simprocAttr, bne_self_eq_false, List.length_map])); ((refine hK' _ _ ?_) <;> clear hK' K'))); all_goals refine al_nil ?_)
        ((refine ah_r 2 rfl (by kernel_rfl) rfl fun K' hK' => ?_); (simp only [go_sem, simprocAttr, bne_self_eq_false, List.length_map]); ((refine hK' _ ?_); clear hK' K'))
        (refine ah_one 3 rfl (by kernel_rfl) ?_; (repeat' ((refine al_r rfl fun K' hK' => ?_); (repeat (simp only [go_sem, simprocAttr, bne_self_eq_false, List.length_map])); ((refine hK' _ _ ?_) <;> clear hK' K'))); all_goals refine al_nil ?_)
        (refine ah_one 9 rfl (by kernel_rfl) ?_; (repeat' ((refine al_r rfl fun K' hK' => ?_); (repeat (simp only [go_sem, simprocAttr, bne_self_eq_false, List.length_map])); ((refine hK' _ _ ?_) <;> clear hK' K'))); all_goals refine al_nil ?_)
        (refine ah_one 11 rfl (by kernel_rfl) ?_; (repeat' ((refine al_d rfl fun K' hK' => ?_); (repeat (first | (simp only [go_sem, simprocAttr, bne_self_eq_false, List.length_map]) | refine AS.mk ?_)); ((refine ⟨?_, hK' _ _ ?_⟩) <;> clear hK' K' <;> (first | (show alist _ _ _ _ _ _; skip) | (simp; done))))); all_goals refine al_nil ?_)
        ((refine ah_r 12 rfl (by kernel_rfl) rfl fun K' hK' => ?_); (simp only [go_sem, simprocAttr, bne_self_eq_false, List.length_map]); ((refine hK' _ ?_); clear hK' K'))
        ((refine ah_r 13 rfl (by kernel_rfl) rfl fun K' hK' => ?_); (simp only [go_sem, simprocAttr, bne_self_eq_false, List.length_map]); ((refine hK' _ ?_); clear hK' K'))
        (refine ah_done (by kernel_rfl) ?_; (simp only [go_sem, simprocAttr, bne_self_eq_false, List.length_map]); refine hK _ ?_; clear hK K)
        (refine awp_frz [4, 5, 6] [0, 4] (by decide) (by (simp; done)) ?_; simp only [go_sem, simprocAttr, bne_self_eq_false, List.length_map])
        simp only [htB]
        refine awp_ret (hR _ _ (.inl rfl) rfl ⟨[1], (.tup [.agg [.ref 1 0 C.1.length, iD C.1.length, .nil], words B.1, iD 0]), by decide, by simp only [List.length_cons, List.length_nil]; decide, ?_, ?_⟩)
        · simp only [go_sem, simprocAttr, bne_self_eq_false, List.length_map]
        · refine ⟨?_, ?_⟩ <;> simp only [go_sem, simprocAttr, bne_self_eq_false, List.length_map]
    skip
end Go.Proofs.Ytagphggcdmjlpaa.P

/- Ages that are right, in plain words: facts about objects at their places. -/
namespace Go.Proofs.Ytagphggcdmjlpaa.P
open Go.Ab Go.Proofs.Ytagphggcdmjlpaa.T

theorem place_append : ∀ (l m : List Obj) (a : Nat), place a (l ++ m) = place a l ++ place (a + (flat l).length) m
  | [], m, a => rfl
  | o :: l, m, a => by
    show o.to a :: place _ (l ++ m) = o.to a :: (place _ l ++ _)
    rw [place_append l m]
    have : (flat (o :: l)).length = (encW o).length + (flat l).length := by show (encW o ++ flat l).length = _; rw [List.length_append]
    rw [this, Nat.add_assoc]

theorem chain_place {h : List Int} : ∀ {l : List Obj} {a : Nat}, Chain h a l → place a l = l
  | [], _, _ => rfl
  | o :: l, a, ⟨h1, _, _, _, h5⟩ => by
    show o.to a :: place _ l = _
    rw [chain_place h5]
    have : o.to a = o := by cases o; simp only at h1; subst h1; rfl
    rw [this]

theorem parts_flat {l : List Obj} {o : Obj} (ho : o ∈ l) {w : Int} (hw : w ∈ o.parts) : w ∈ flat l := by
  induction l with
  | nil => cases ho
  | cons x l ih =>
    show w ∈ encW x ++ flat l
    rcases List.mem_cons.1 ho with rfl | ho
    · refine List.mem_append_left _ ?_
      unfold encW
      exact List.mem_cons_of_mem _ (List.mem_append_right _ (List.mem_append_right _ hw))
    · exact List.mem_append_right _ (ih ho)

/-- A list of objects at their places. -/
def Placed (l : List Obj) : Prop := place 0 l = l ∧ ∀ o, o ∈ l → ObjOk o

theorem heap_flat {h : List Int} (hlen : h.length ≤ maxLen) (hok : ∀ w, w ∈ h → WordOk w) (he : (objsS h).2 = 0) : h.length ≤ 4000 ∧ h = flat (objsS h).1 ∧ Placed (objsS h).1 := by
  have hv : objsS h = if decide ((h.length : Int) > 4000) then ([], 2) else objF h (h.length + 1) 0 [] := rfl
  by_cases h4 : h.length ≤ 4000
  · rw [if_neg (by simp; omega)] at hv
    rw [hv] at he ⊢
    obtain ⟨l', hl, hc⟩ := objF_chain hlen hok (h.length + 1) 0 [] (objF h (h.length + 1) 0 []).1 (by omega) (Nat.zero_le _) (by rw [← he])
    rw [List.nil_append] at hl
    rw [← hl] at hc
    have hnums := objF_nums (h := h) (h.length + 1) 0 [] (fun x hx => by cases hx)
    generalize (objF h (h.length + 1) 0 []).1 = l at *
    have hri := chain_right hc
    have hfl := chain_flat hc
    rw [List.drop_zero] at hfl
    exact ⟨h4, hfl, chain_place hc, fun o ho => ⟨hri o ho, hnums o ho, fun w hw => hok w (by rw [hfl]; exact parts_flat ho hw)⟩⟩
  · rw [if_pos (by simp; omega)] at hv
    rw [hv] at he
    cases he

theorem place_mem : ∀ {L : List Obj} {a : Nat} {x : Obj}, x ∈ place a L → ∃ P o Q, L = P ++ o :: Q ∧ x = o.to (a + (flat P).length)
  | [], _, _, h => by cases h
  | o :: L, a, x, h => by
    rcases List.mem_cons.1 h with rfl | h
    · exact ⟨[], o, L, rfl, by simp [flat]⟩
    · obtain ⟨P, o2, Q, rfl, rfl⟩ := place_mem h
      refine ⟨o :: P, o2, Q, rfl, ?_⟩
      have : (flat (o :: P)).length = (encW o).length + (flat P).length := by show (encW o ++ flat P).length = _; rw [List.length_append]
      rw [this, Nat.add_assoc]

theorem placed_split {L : List Obj} (hL : Placed L) {o : Obj} (ho : o ∈ L) : ∃ P Q, L = P ++ o :: Q ∧ o.at_ = (flat P).length := by
  rw [← hL.1] at ho
  obtain ⟨P, o2, Q, hl, rfl⟩ := place_mem ho
  refine ⟨P, Q, ?_, by show ((0 + (flat P).length : Nat) : Int) = _; rw [Nat.zero_add]⟩
  have h1 := hL.1
  rw [hl, place_append] at h1
  obtain ⟨e1, e2⟩ := List.append_inj h1 (place_len _ _)
  have e3 : o2.to (0 + (flat P).length) = o2 := (List.cons.inj e2).1
  rw [e3]; exact hl

/-- The object at its place is read. -/
theorem at_placed {L : List Obj} (hL : Placed L) {o : Obj} (ho : o ∈ L) : atS (flat L) o.at_ = (o, 0) := by
  obtain ⟨P, Q, hl, ha⟩ := placed_split hL ho
  have hk := hL.2 o ho
  rw [hl, flat_append, ha]
  have h := at_enc (flat P) (flat Q) o hk.1 hk.2.1
  rw [show flat (o :: Q) = encW o ++ flat Q from rfl, h]
  have : o.to (flat P).length = o := by cases o; simp only at ha; subst ha; rfl
  rw [this]

theorem placed_inj {L : List Obj} (hL : Placed L) {x y : Obj} (hx : x ∈ L) (hy : y ∈ L) (h : x.at_ = y.at_) : x = y := by
  have h1 := at_placed hL hx
  have h2 := at_placed hL hy
  rw [h] at h1
  rw [h1] at h2
  exact (Prod.mk.inj h2).1

theorem placed_objs {L : List Obj} (hL : Placed L) (h4 : (flat L).length ≤ 4000) : objsS (flat L) = (L, 0) := by
  have h := objs_flat (fun o ho => ⟨(hL.2 o ho).1, (hL.2 o ho).2.1⟩) h4
  rw [hL.1] at h
  exact h

theorem placed_ok {L : List Obj} (hL : Placed L) : ∀ w, w ∈ flat L → WordOk w := flat_ok fun o ho => (hL.2 o ho).2.2

theorem placed_len {L : List Obj} (hL : Placed L) {o : Obj} (ho : o ∈ L) : ∃ n : Nat, o.at_ = n ∧ n + (encW o).length ≤ (flat L).length := by
  obtain ⟨P, Q, hl, ha⟩ := placed_split hL ho
  refine ⟨_, ha, ?_⟩
  rw [hl, flat_append, show flat (o :: Q) = encW o ++ flat Q from rfl, List.length_append, List.length_append]
  omega

theorem count_len {L : List Obj} : L.length ≤ (flat L).length := by
  induction L with
  | nil => exact Nat.zero_le _
  | cons o L ih =>
    rw [show flat (o :: L) = encW o ++ flat L from rfl, List.length_append, List.length_cons]
    have : 1 ≤ (encW o).length := by simp [encW]
    omega

theorem parts_len {L : List Obj} {o : Obj} (ho : o ∈ L) : o.parts.length ≤ (flat L).length := by
  induction L with
  | nil => cases ho
  | cons x L ih =>
    rw [show flat (x :: L) = encW x ++ flat L from rfl, List.length_append]
    rcases List.mem_cons.1 ho with rfl | ho
    · have : o.parts.length ≤ (encW o).length := by unfold encW; simp; omega
      omega
    · have := ih ho; omega

/-- Check, in plain words. -/
theorem firstE_zero {α : Type} {f : α → Int} : ∀ {l : List α}, firstE f l = 0 ↔ ∀ x, x ∈ l → f x = 0
  | [] => ⟨fun _ x hx => (by cases hx), fun _ => rfl⟩
  | y :: l => by
    unfold firstE
    by_cases h : f y = 0
    · rw [if_neg (by simp [h]), firstE_zero]
      exact ⟨fun hh x hx => by rcases List.mem_cons.1 hx with rfl | hx; exact h; exact hh x hx, fun hh x hx => hh x (List.mem_cons_of_mem _ hx)⟩
    · rw [if_pos (by simpa using h)]
      exact ⟨fun hh => absurd hh h, fun hh => hh y List.mem_cons_self⟩

theorem lateF_iff {old : Int} {beg : Int → Bool} : ∀ {late : List Int} {pv : Option Int}, lateF old beg pv late = false ↔ (∀ t, t ∈ late → t < old ∧ beg t = true) ∧ late.Pairwise (· < ·) ∧ ∀ p, pv = some p → ∀ t, t ∈ late → p < t
  | [], pv => ⟨fun _ => ⟨fun t ht => (by cases ht), .nil, fun p _ t ht => (by cases ht)⟩, fun _ => rfl⟩
  | t :: r, pv => by
    unfold lateF
    rw [Bool.or_eq_false_iff, Bool.or_eq_false_iff, Bool.or_eq_false_iff, lateF_iff (late := r)]
    constructor
    · rintro ⟨⟨⟨h1, h2⟩, h3⟩, h4, h5, h6⟩
      have h1 : t < old := by simpa using h1
      have h2 : beg t = true := by simpa using h2
      refine ⟨fun x hx => ?_, List.pairwise_cons.2 ⟨fun x hx => h6 t rfl x hx, h5⟩, fun p hp x hx => ?_⟩
      · rcases List.mem_cons.1 hx with rfl | hx
        · exact ⟨h1, h2⟩
        · exact h4 x hx
      · subst hp
        have h3 : p < t := by simpa [prevB] using h3
        rcases List.mem_cons.1 hx with rfl | hx
        · exact h3
        · have := h6 t rfl x hx; omega
    · rintro ⟨h1, h2, h3⟩
      obtain ⟨h4, h5⟩ := List.pairwise_cons.1 h2
      obtain ⟨a1, a2⟩ := h1 t List.mem_cons_self
      refine ⟨⟨⟨by simpa using a1, by simp [a2]⟩, ?_⟩, fun x hx => h1 x (List.mem_cons_of_mem _ hx), h5, fun p hp x hx => by cases hp; exact h4 x hx⟩
      cases pv with
      | none => rfl
      | some p => have := h3 p rfl t List.mem_cons_self; simpa [prevB] using this

/-- Ages that are right. -/
def GoodA (n old : Int) (late : List Int) (l : List Obj) : Prop :=
  0 ≤ old ∧ begS n l old = true ∧ (∀ t, t ∈ late → t < old ∧ begS n l t = true) ∧ late.Pairwise (· < ·) ∧ ∀ o, o ∈ l → ∀ w, w ∈ o.parts → partE n old (begS n l) late o w = 0

theorem checkO_iff {n old : Int} {late : List Int} {l : List Obj} : checkO n old late l = 0 ↔ GoodA n old late l := by
  unfold checkO GoodA
  by_cases h1 : (decide (old < 0) || !begS n l old) = true
  · rw [if_pos h1]
    refine ⟨fun h => (by cases h), fun ⟨a, b, _⟩ => ?_⟩
    simp [b] at h1
    omega
  · rw [if_neg h1]
    simp only [Bool.or_eq_true, not_or, decide_eq_true_eq, Bool.not_eq_true', Bool.not_eq_false] at h1
    obtain ⟨g1, g2⟩ := h1
    by_cases h2 : lateF old (begS n l) none late = true
    · rw [if_pos h2]
      refine ⟨fun h => (by cases h), fun ⟨_, _, a, b, _⟩ => ?_⟩
      have := (lateF_iff (pv := none)).2 ⟨a, b, fun p hp => by cases hp⟩
      rw [this] at h2; cases h2
    · rw [if_neg h2]
      have h2 : lateF old (begS n l) none late = false := by simpa using h2
      obtain ⟨a, b, _⟩ := lateF_iff.1 h2
      rw [firstE_zero]
      constructor
      · exact fun h => ⟨by omega, g2, a, b, fun o ho => firstE_zero.1 (h o ho)⟩
      · exact fun ⟨_, _, _, _, h⟩ o ho => firstE_zero.2 (h o ho)

theorem hasI_iff {l : List Int} {t : Int} : hasI l t = true ↔ t ∈ l := by
  unfold hasI
  rw [List.any_eq_true]
  exact ⟨fun ⟨x, hx, h⟩ => by have : t = x := by simpa using h
                              rw [this]; exact hx, fun h => ⟨t, h, by simp⟩⟩

theorem begS_iff {n : Int} {l : List Obj} {t : Int} : begS n l t = true ↔ t = n ∨ ∃ o, o ∈ l ∧ o.at_ = t := by
  unfold begS
  rw [Bool.or_eq_true, List.any_eq_true]
  constructor
  · rintro (h | ⟨o, ho, h⟩)
    · exact .inl (by simpa using h)
    · exact .inr ⟨o, ho, by have : t = o.at_ := by simpa using h
                            exact this.symm⟩
  · rintro (h | ⟨o, ho, h⟩)
    · exact .inl (by simpa using h)
    · exact .inr ⟨o, ho, by simp [h]⟩
end Go.Proofs.Ytagphggcdmjlpaa.P

