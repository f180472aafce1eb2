/- A value that is built makes a heap grow by objects; the depth of values, told ahead. -/
import Derived.Test.YtagphggcdmjlpaaH11
set_option linter.unusedSimpArgs false
set_option linter.unusedVariables false
set_option maxHeartbeats 1000000
namespace Go.Proofs.Ytagphggcdmjlpaa.P
open Go.Ab Go.Proofs.Ytagphggcdmjlpaa.T

theorem c38 : Try.prog.cellsOf 38 = 4 := by kernel_rfl
theorem c3 : Try.prog.cellsOf 3 = 1 := by kernel_rfl
theorem c9 : Try.prog.cellsOf 9 = 1 := by kernel_rfl
theorem c36 : Try.prog.cellsOf 36 = 1 := by kernel_rfl
theorem b38 : Try.prog.bytesOf 38 = 56 := by kernel_rfl

theorem num_wf {n : Int} (h : (Lit.int .i64 n).wf = true) : NumOk n := by
  simp [Lit.wf, IntKind.min, IntKind.max, IntKind.signed, IntKind.bits] at h
  exact ⟨by omega, by omega⟩

set_option maxRecDepth 100000 in
theorem sh38 {f : Nat} {xs : List PV} (h : shapeOk Try.prog f 38 xs) : ∃ k n text args g, xs = [.lit (.int .i64 k), .lit (.int .i64 n), .lit (.string text), .sl args] ∧ g < f ∧ args.length ≤ maxLen ∧ args.length ≤ 2513169434843 ∧ NumOk n ∧ ∀ r, r ∈ args → r.length = 4 ∧ shapeOk Try.prog g 38 r := by
  obtain ⟨m, rfl, hl, hf⟩ := shape_struct Try.underlying38 h
  rw [c38] at hl
  match xs, hl with
  | [a, b, c, d], _ =>
    have h0 := hf _ (List.mem_cons_self)
    have h1 := hf _ (List.mem_cons_of_mem _ List.mem_cons_self)
    have h2 := hf _ (List.mem_cons_of_mem _ (List.mem_cons_of_mem _ List.mem_cons_self))
    have h3 := hf _ (List.mem_cons_of_mem _ (List.mem_cons_of_mem _ (List.mem_cons_of_mem _ List.mem_cons_self)))
    simp only [c3, c9, c36, List.drop_zero, List.drop_succ_cons, List.take_succ_cons, List.take_zero] at h0 h1 h2 h3
    obtain ⟨k, e0, _⟩ := shape_int Try.underlying3 h0
    obtain ⟨n, e1, hn⟩ := shape_int Try.underlying3 h1
    obtain ⟨s, e2, _⟩ := shape_string Try.underlying9 h2
    obtain ⟨g, r, hg, e3, e4, e5, e6⟩ := shape_slice Try.underlying36 h3
    simp only [List.cons.injEq, and_true] at e0 e1 e2 e3
    rw [c38] at e6
    rw [b38] at e5
    have hre : reachBytes = 140737488351232 := by kernel_rfl
    exact ⟨k, n, s, r, g, by rw [e0, e1, e2, e3], by omega, e4, by omega, num_wf hn, e6⟩

theorem kindB_ok {k n : Int} (h : NumOk n) : NumOk (kindB k n).2 := by
  have h0 : NumOk 0 := ⟨by decide, by decide⟩
  unfold kindB
  split <;> first | exact h | skip
  split <;> first | exact h0 | skip
  split <;> first | exact h0 | skip
  split <;> first | exact h | skip
  split <;> exact h0

theorem foldB_grown {F : List Int → List PV → List Int × Int × Int} : ∀ (l : List (List PV)) (g ws : List Int), g.length ≤ 4000 → (∀ w, w ∈ ws → WordOk w) → (∀ x, x ∈ l → ∀ g, g.length ≤ 4000 → Grown g (F g x)) →
    (foldB F l g ws).2.2 = 0 → (foldB F l g ws).1.length ≤ 4000 ∧ (∀ w, w ∈ (foldB F l g ws).2.1 → WordOk w) ∧ ∃ L, (foldB F l g ws).1 = g ++ flat L ∧ ∀ o, o ∈ L → ObjOk o
  | [], g, ws, hg, hw, _, _ => ⟨hg, hw, [], by simp [foldB, flat], by simp⟩
  | x :: l, g, ws, hg, hw, hF, he => by
    unfold foldB at he ⊢
    by_cases hc : ((F g x).2.2 != 0) = true
    · rw [if_pos hc] at he
      simp at hc
      exact absurd he hc
    · rw [if_neg hc] at he ⊢
      rcases hF x List.mem_cons_self g hg with ⟨h1, _⟩ | ⟨_, h2, h3, L, h4, h5⟩
      · exact absurd h1 (by simpa using hc)
      · obtain ⟨r1, r2, L2, r3, r4⟩ := foldB_grown l (F g x).1 (ws ++ [(F g x).2.1]) h3 (fun w hw2 => by
          rcases List.mem_append.1 hw2 with h | h
          · exact hw w h
          · rw [List.mem_singleton.1 h]; exact h2) (fun y hy => hF y (List.mem_cons_of_mem _ hy)) he
        refine ⟨r1, r2, L ++ L2, by rw [r3, h4, flat_append, List.append_assoc], fun o ho => ?_⟩
        rcases List.mem_append.1 ho with h | h
        · exact h5 o h
        · exact r4 o h

theorem word4 {m : Nat} (h : m ≤ 4000) : (wordS 4 (m : Int)).2 = 0 := by
  have : fits 4 (m : Int) = true := by
    unfold fits
    have h1 : decide ((m : Int) ≥ 0) = true := by simp
    have h2 : decide ((m : Int) < 1152921504606846976) = true := by simp; omega
    rw [h1, h2]; simp
  unfold wordS
  rw [if_pos this]

theorem grown_ok {h r : List Int} {w e : Int} (he : e = 0) (hw : WordOk w) (hl : r.length ≤ 4000) (L : List Obj) (hr : r = h ++ flat L) (hL : ∀ o, o ∈ L → ObjOk o) : Grown h (r, w, e) := .inr ⟨he, hw, hl, L, hr, hL⟩
theorem grown_err {h : List Int} {e : Int} (he : e ≠ 0) : Grown h ([], 0, e) := .inl ⟨he, rfl, rfl⟩

theorem buildN_grown {F : List Int → List PV → List Int × Int × Int} {h : List Int} {k n : Int} {text : ByteArray} {args : List (List PV)} (h4 : h.length ≤ 4000) (hn : NumOk n)
    (hF : ∀ x, x ∈ args → ∀ g, g.length ≤ 4000 → Grown g (F g x)) : Grown h (buildN F h k n text args) := by
  have hWk := wordS_ok
  unfold buildN
  split
  · exact grown_ok rfl (ofS_ok _ _ _ _) h4 [] (by simp [flat]) (by simp)
  split
  · exact grown_err (by decide)
  split
  · exact grown_err (by decide)
  split
  · rename_i hc
    exact grown_err (by simpa using hc)
  rename_i hc
  obtain ⟨r1, r2, L, r3, r4⟩ := foldB_grown args h [] h4 (by simp) hF (by simpa using hc)
  generalize foldB F args h [] = Q at *
  obtain ⟨g, ws, e⟩ := Q
  simp only at r1 r2 r3 hc ⊢
  split
  · rename_i hp
    exact grown_err (by simpa using hp)
  rename_i hp
  have hel := enc_len ⟨0, (kindB k n).1, (kindB k n).2, text, ws⟩
  have hnk := kindB_ok (k := k) hn
  generalize (kindB k n).1 = kk at *
  generalize (kindB k n).2 = nn at *
  unfold putS at hp ⊢
  by_cases hr : (!rightS ⟨0, kk, nn, text, ws⟩) = true
  · rw [if_pos hr] at hp; simp at hp
  rw [if_neg hr] at hp ⊢
  by_cases hl : decide ((g.length : Int) > 4000 - (roomN kk text.size ws.length : Int)) = true
  · rw [if_pos hl] at hp; simp at hp
  rw [if_neg hl]
  simp only [decide_eq_true_eq] at hl
  simp only at hel ⊢
  have hw4 : ∀ m : Nat, m ≤ 4000 → (wordS 4 (m : Int)).2 = 0 := fun m => word4
  generalize wordS = W at hw4 hWk ⊢
  have e1 := hw4 g.length r1
  have e2 := hWk 4 (g.length : Int)
  refine grown_ok e1 e2 (by rw [List.length_append, hel]; omega) (L ++ [⟨0, kk, nn, text, ws⟩]) (by rw [r3, flat_append, List.append_assoc]; simp [flat]) fun o ho => ?_
  rcases List.mem_append.1 ho with h | h
  · exact r4 o h
  · rw [List.mem_singleton.1 h]
    refine ⟨?_, hnk, r2⟩
    generalize rightS (⟨0, kk, nn, text, ws⟩ : Obj) = b at hr ⊢
    simpa using hr

theorem buildEx : ∀ (f : Nat) (xs : List PV), shapeOk Try.prog f 38 xs → ∃ B : List Int → List Int × Int × Int, ∀ h, h.length ≤ 4000 → ACallP Try.prog 23 [words h, .agg (xs.map .p)] (.tup [words (B h).1, wD (B h).2.1, iD (B h).2.2]) ∧ Grown h (B h) := by
  intro f
  induction f using Nat.strongRecOn
  rename_i f ih
  intro xs hxs
  obtain ⟨k, n, text, args, g, rfl, hg, hmax, hal, hn, hargs⟩ := sh38 hxs
  have hch : ∀ x : List PV, ∃ B : List Int → List Int × Int × Int, x ∈ args → ∀ h, h.length ≤ 4000 → ACallP Try.prog 23 [words h, .agg (x.map .p)] (.tup [words (B h).1, wD (B h).2.1, iD (B h).2.2]) ∧ Grown h (B h) := fun x => by
    by_cases hx : x ∈ args
    · obtain ⟨B, hB⟩ := ih g hg x (hargs x hx).2
      exact ⟨B, fun _ => hB⟩
    · exact ⟨fun _ => ([], 0, 0), fun h => absurd h hx⟩
  obtain ⟨F, hF⟩ : ∃ F : List PV → List Int → List Int × Int × Int, ∀ x, x ∈ args → ∀ h, h.length ≤ 4000 → ACallP Try.prog 23 [words h, .agg (x.map .p)] (.tup [words (F x h).1, wD (F x h).2.1, iD (F x h).2.2]) ∧ Grown h (F x h) :=
    ⟨fun x => Classical.choose (hch x), fun x => Classical.choose_spec (hch x)⟩
  refine ⟨fun h => buildN (fun g x => F x g) h k n text args, fun h h4 => ⟨?_, buildN_grown h4 hn fun x hx g hg4 => (hF x hx g hg4).2⟩⟩
  exact buildL (fun g x => F x g) h k n text args h4 hn (fun x hx => (hargs x hx).1) hal (fun x hx g hg4 => hF x hx g hg4) (fun x hx => by
    obtain ⟨k, n, t, a, _, e, _⟩ := sh38 (hargs x hx).2
    exact ⟨k, n, t, a, e⟩)

/-- What the loop of Deep adds up. -/
def deepAcc (F : List PV → Int × Int) (l : List (List PV)) : Int × Int := l.foldl (fun a x => (if (F x).1 > a.1 then (F x).1 else a.1, IntKind.i64.wrap (a.2 + (F x).2))) (0, 1)

theorem deepAcc_succ (F : List PV → Int × Int) {l : List (List PV)} {i : Nat} {x : List PV} (h : l[i]? = some x) :
    deepAcc F (l.take (i + 1)) = (if (F x).1 > (deepAcc F (l.take i)).1 then (F x).1 else (deepAcc F (l.take i)).1, IntKind.i64.wrap ((deepAcc F (l.take i)).2 + (F x).2)) := by
  unfold deepAcc
  rw [List.take_add_one, h]
  simp


theorem deepP : ∀ (f : Nat) (xs : List PV), shapeOk Try.prog f 38 xs → ∃ d m, ACallP Try.prog 24 [.agg (xs.map .p)] (.tup [iD d, iD m]) := by
  intro f
  induction f using Nat.strongRecOn
  rename_i f ih
  intro xs hxs
  obtain ⟨k, n, text, args, g, rfl, hg, hmax, _, _, hargs⟩ := sh38 hxs
  have hch : ∀ x : List PV, ∃ dm : Int × Int, x ∈ args → ACallP Try.prog 24 [.agg (x.map .p)] (.tup [iD dm.1, iD dm.2]) := fun x => by
    by_cases hx : x ∈ args
    · obtain ⟨d, m, h⟩ := ih g hg x (hargs x hx).2
      exact ⟨(d, m), fun _ => h⟩
    · exact ⟨(0, 0), fun h => absurd h hx⟩
  obtain ⟨F, hF⟩ : ∃ F : List PV → Int × Int, ∀ x, x ∈ args → ACallP Try.prog 24 [.agg (x.map .p)] (.tup [iD (F x).1, iD (F x).2]) := ⟨fun x => Classical.choose (hch x), fun x => Classical.choose_spec (hch x)⟩
  clear hch ih
  refine ⟨IntKind.i64.wrap ((deepAcc F args).1 + 1), (deepAcc F args).2, ?_⟩
  refine acallp_fn [2, 3] Try.func24 rfl rfl Try.ntmps24 (by simp) fun R hR => ?_
  (refine awp_reg_seq [1] fun K hK => ?_; (repeat' (first | ((first | refine al_r rfl fun K' hK' => ?_ | refine al_d rfl fun K' hK' => ?_ | refine al_t rfl rfl fun K' hK' => ?_); (repeat (first | (simp only [go_sem, simprocAttr]) | refine AS.mk ?_ | refine AAp.grow ?_)); (first | ((first | refine hK' _ _ ?_ | refine ⟨?_, hK' _ _ ?_⟩ | refine ⟨?_, ?_, hK' _ _ ?_⟩ | refine ⟨?_, ?_, ?_, hK' _ _ ?_⟩) <;> clear hK' K' <;> (first | (show alist _ _ _ _ _ _; skip) | (intro s hs; cases hs; done) | assumption | (simp; done) | omega | (simp; omega) | skip)))) | refine al_e rfl rfl ?_ | refine al_u rfl rfl ?_ | ((fail_if_success (refine al_t rfl rfl fun K' hK' => ?_)); refine al_s _ rfl rfl rfl (fun hb => ?_) (fun hb => ?_)))); all_goals (refine al_nil ?_; (simp only [go_sem, simprocAttr]); refine hK _ ?_; clear hK K))
  (refine awp_frz [1] [] (by decide) (by simp) ?_; simp only [go_sem, simprocAttr])
  (refine awp_reg_seq [1, 4, 5] fun K hK => ?_; (repeat' (first | ((first | refine al_r rfl fun K' hK' => ?_ | refine al_d rfl fun K' hK' => ?_ | refine al_t rfl rfl fun K' hK' => ?_); (repeat (first | (simp only [go_sem, simprocAttr]) | refine AS.mk ?_ | refine AAp.grow ?_)); (first | ((first | refine hK' _ _ ?_ | refine ⟨?_, hK' _ _ ?_⟩ | refine ⟨?_, ?_, hK' _ _ ?_⟩ | refine ⟨?_, ?_, ?_, hK' _ _ ?_⟩) <;> clear hK' K' <;> (first | (show alist _ _ _ _ _ _; skip) | (intro s hs; cases hs; done) | assumption | (simp; done) | omega | (simp; omega) | skip)))) | refine al_e rfl rfl ?_ | refine al_u rfl rfl ?_ | ((fail_if_success (refine al_t rfl rfl fun K' hK' => ?_)); refine al_s _ rfl rfl rfl (fun hb => ?_) (fun hb => ?_)))); all_goals (refine al_nil ?_; (simp only [go_sem, simprocAttr]); refine hK _ ?_; clear hK K))
  refine awp_seq_k fun K hK => ?_
  (refine awp_reg_seq [4, 5, 11, 12, 13] fun K hK => ?_; (repeat' (first | ((first | refine al_r rfl fun K' hK' => ?_ | refine al_d rfl fun K' hK' => ?_ | refine al_t rfl rfl fun K' hK' => ?_); (repeat (first | (simp only [go_sem, simprocAttr]) | refine AS.mk ?_ | refine AAp.grow ?_)); (first | ((first | refine hK' _ _ ?_ | refine ⟨?_, hK' _ _ ?_⟩ | refine ⟨?_, ?_, hK' _ _ ?_⟩ | refine ⟨?_, ?_, ?_, hK' _ _ ?_⟩) <;> clear hK' K' <;> (first | (show alist _ _ _ _ _ _; skip) | (intro s hs; cases hs; done) | assumption | (simp; done) | omega | (simp; omega) | skip)))) | refine al_e rfl rfl ?_ | refine al_u rfl rfl ?_ | ((fail_if_success (refine al_t rfl rfl fun K' hK' => ?_)); refine al_s _ rfl rfl rfl (fun hb => ?_) (fun hb => ?_)))); all_goals (refine al_nil ?_; (simp only [go_sem, simprocAttr]); refine hK _ ?_; clear hK K))
  refine awp_block ?_
  -- loop 0 head [4, 5, 11, 12, 13]
  refine awp_loop (fun m s => ∃ i : Nat, i ≤ args.length ∧ m = args.length - i ∧ s = ⟨ofL [(4, iD (deepAcc F (args.take i)).1), (5, iD (deepAcc F (args.take i)).2), (11, .p (.sl args)), (12, iD args.length), (13, iD i)], [], 0⟩) ⟨_, 0, Nat.zero_le _, rfl, rfl⟩ ?_
  rintro m s ⟨i, hi, rfl, rfl⟩
  (refine awp_reg_seq [4, 5, 11, 12, 13, 14] fun K hK => ?_; (repeat' (first | ((first | refine al_r rfl fun K' hK' => ?_ | refine al_d rfl fun K' hK' => ?_ | refine al_t rfl rfl fun K' hK' => ?_); (repeat (first | (simp only [go_sem, simprocAttr]) | refine AS.mk ?_ | refine AAp.grow ?_)); (first | ((first | refine hK' _ _ ?_ | refine ⟨?_, hK' _ _ ?_⟩ | refine ⟨?_, ?_, hK' _ _ ?_⟩ | refine ⟨?_, ?_, ?_, hK' _ _ ?_⟩) <;> clear hK' K' <;> (first | (show alist _ _ _ _ _ _; skip) | (intro s hs; cases hs; done) | assumption | (simp; done) | omega | (simp; omega) | skip)))) | refine al_e rfl rfl ?_ | refine al_u rfl rfl ?_ | ((fail_if_success (refine al_t rfl rfl fun K' hK' => ?_)); refine al_s _ rfl rfl rfl (fun hb => ?_) (fun hb => ?_)))); all_goals (refine al_nil ?_; (simp only [go_sem, simprocAttr]); refine hK _ ?_; clear hK K))
  refine awp_seq_k fun K hK => ?_
  refine awp_if (decide ((i : Int) < args.length)) rfl (fun hc => ?_) (fun hc => ?_)
  · refine awp_skip ?_
    refine hK _ ?_; clear hK K
    refine awp_seq_k fun K hK => ?_
    refine awp_block ?_
    have hi2 : i < args.length := by simpa using hc
    obtain ⟨x, hget⟩ := get_of_lt hi2
    have hnn : (0 : Int) ≤ (i : Int) := Int.natCast_nonneg i
    have hnx : IntKind.i64.wrap ((i : Int) + 1) = ((i + 1 : Nat) : Int) := wrap_next hi2 hmax
    obtain ⟨hx4, hxs⟩ := hargs x (List.mem_of_getElem? hget)
    have hcall := hF x (List.mem_of_getElem? hget)
    have hacc := deepAcc_succ F hget
    obtain ⟨y0, y1, y2, y3, _, rfl, _, _⟩ := sh38 hxs
    generalize F _ = dm at hcall hacc
    generalize deepAcc F (args.take i) = A at *
    simp only [List.map_cons, List.map_nil] at hcall

    (refine awp_reg_seq [4, 5, 7, 11, 12, 13] fun K hK => ?_; (repeat' (first | ((first | refine al_r rfl fun K' hK' => ?_ | refine al_d rfl fun K' hK' => ?_ | refine al_t rfl rfl fun K' hK' => ?_); (repeat (first | (simp only [go_sem, simprocAttr, hget, hnn, hi2, hnx, Int.toNat_natCast]) | refine AS.mk ?_ | refine AAp.grow ?_)); (first | ((first | refine hK' _ _ ?_ | refine ⟨?_, hK' _ _ ?_⟩ | refine ⟨?_, ?_, hK' _ _ ?_⟩ | refine ⟨?_, ?_, ?_, hK' _ _ ?_⟩) <;> clear hK' K' <;> (first | (show alist _ _ _ _ _ _; skip) | (intro s hs; cases hs; done) | assumption | (simp; done) | omega | (simp; omega) | skip)))) | refine al_e rfl rfl ?_ | refine al_u rfl rfl ?_ | ((fail_if_success (refine al_t rfl rfl fun K' hK' => ?_)); refine al_s _ rfl rfl rfl (fun hb => ?_) (fun hb => ?_)))); all_goals (refine al_nil ?_; (simp only [go_sem, simprocAttr, hget, hnn, hi2, hnx, Int.toNat_natCast]); refine hK _ ?_; clear hK K))
    (refine awp_frz [4, 5, 7, 11, 12, 13] [] (by decide) (by simp) ?_; simp only [go_sem, simprocAttr, hget, hnn, hi2, hnx, Int.toNat_natCast])
    (refine awp_reg_seq [4, 5, 8, 9, 11, 12, 13] fun K hK => ?_; (repeat' (first | ((first | refine al_r rfl fun K' hK' => ?_ | refine al_d rfl fun K' hK' => ?_ | refine al_t rfl rfl fun K' hK' => ?_); (repeat (first | (simp only [go_sem, simprocAttr, hget, hnn, hi2, hnx, Int.toNat_natCast]) | refine AS.mk ?_ | refine AAp.grow ?_)); (first | ((first | refine hK' _ _ ?_ | refine ⟨?_, hK' _ _ ?_⟩ | refine ⟨?_, ?_, hK' _ _ ?_⟩ | refine ⟨?_, ?_, ?_, hK' _ _ ?_⟩) <;> clear hK' K' <;> (first | (show alist _ _ _ _ _ _; skip) | (intro s hs; cases hs; done) | assumption | (simp; done) | omega | (simp; omega) | skip)) | ((show AC _ _ (D.fn 24 _) _ _); refine acall_p (f := 24) (e := rfl) (hr := rfl) (k := hK' _ _ ?_) (hc := Try.call24) (h := hcall); clear hK' K'))) | refine al_e rfl rfl ?_ | refine al_u rfl rfl ?_ | ((fail_if_success (refine al_t rfl rfl fun K' hK' => ?_)); refine al_s _ rfl rfl rfl (fun hb => ?_) (fun hb => ?_)))); all_goals (refine al_nil ?_; (simp only [go_sem, simprocAttr, hget, hnn, hi2, hnx, Int.toNat_natCast]); refine hK _ ?_; clear hK K))
    (refine awp_reg_end [4, 5, 11, 12, 13] fun K hK => ?_; (repeat' (first | ((first | refine al_r rfl fun K' hK' => ?_ | refine al_d rfl fun K' hK' => ?_ | refine al_t rfl rfl fun K' hK' => ?_); (repeat (first | (simp only [go_sem, simprocAttr, hget, hnn, hi2, hnx, Int.toNat_natCast]) | refine AS.mk ?_ | refine AAp.grow ?_)); (first | ((first | refine hK' _ _ ?_ | refine ⟨?_, hK' _ _ ?_⟩ | refine ⟨?_, ?_, hK' _ _ ?_⟩ | refine ⟨?_, ?_, ?_, hK' _ _ ?_⟩) <;> clear hK' K' <;> (first | (show alist _ _ _ _ _ _; skip) | (intro s hs; cases hs; done) | assumption | (simp; done) | omega | (simp; omega) | skip)))) | refine al_e rfl rfl ?_ | refine al_u rfl rfl ?_ | ((fail_if_success (refine al_t rfl rfl fun K' hK' => ?_)); refine al_s _ rfl rfl rfl (fun hb => ?_) (fun hb => ?_)))); all_goals (refine al_nil ?_; (simp only [go_sem, simprocAttr, hget, hnn, hi2, hnx, Int.toNat_natCast]); refine hK _ ?_; clear hK K))
    refine hK _ ?_; clear hK K
    (refine awp_reg_end [4, 5, 11, 12, 13] fun K hK => ?_; (repeat' (first | ((first | refine al_r rfl fun K' hK' => ?_ | refine al_d rfl fun K' hK' => ?_ | refine al_t rfl rfl fun K' hK' => ?_); (repeat (first | (simp only [go_sem, simprocAttr, hget, hnn, hi2, hnx, Int.toNat_natCast]) | refine AS.mk ?_ | refine AAp.grow ?_)); (first | ((first | refine hK' _ _ ?_ | refine ⟨?_, hK' _ _ ?_⟩ | refine ⟨?_, ?_, hK' _ _ ?_⟩ | refine ⟨?_, ?_, ?_, hK' _ _ ?_⟩) <;> clear hK' K' <;> (first | (show alist _ _ _ _ _ _; skip) | (intro s hs; cases hs; done) | assumption | (simp; done) | omega | (simp; omega) | skip)))) | refine al_e rfl rfl ?_ | refine al_u rfl rfl ?_ | ((fail_if_success (refine al_t rfl rfl fun K' hK' => ?_)); refine al_s _ rfl rfl rfl (fun hb => ?_) (fun hb => ?_)))); all_goals (refine al_nil ?_; (simp only [go_sem, simprocAttr, hget, hnn, hi2, hnx, Int.toNat_natCast]); refine hK _ ?_; clear hK K))
    refine ⟨_, ?_, i + 1, hi2, rfl, ?_⟩
    · omega
    · rw [hacc]

  · have hie : i = args.length := by simp at hc; omega
    subst hie
    rw [List.take_length]
    refine awp_exit ?_
    clear hK
    refine hK _ ?_; clear hK K
    (refine awp_reg_seq [2, 3] fun K hK => ?_; (repeat' (first | ((first | refine al_r rfl fun K' hK' => ?_ | refine al_d rfl fun K' hK' => ?_ | refine al_t rfl rfl fun K' hK' => ?_); (repeat (first | (simp only [go_sem, simprocAttr]) | refine AS.mk ?_ | refine AAp.grow ?_)); (first | ((first | refine hK' _ _ ?_ | refine ⟨?_, hK' _ _ ?_⟩ | refine ⟨?_, ?_, hK' _ _ ?_⟩ | refine ⟨?_, ?_, ?_, hK' _ _ ?_⟩) <;> clear hK' K' <;> (first | (show alist _ _ _ _ _ _; skip) | (intro s hs; cases hs; done) | assumption | (simp; done) | omega | (simp; omega) | skip)))) | refine al_e rfl rfl ?_ | refine al_u rfl rfl ?_ | ((fail_if_success (refine al_t rfl rfl fun K' hK' => ?_)); refine al_s _ rfl rfl rfl (fun hb => ?_) (fun hb => ?_)))); all_goals (refine al_nil ?_; (simp only [go_sem, simprocAttr]); refine hK _ ?_; clear hK K))
    all_goals (refine awp_ret ?_; (first | refine hR _ _ (.inl rfl) rfl ?_ | refine hR _ _ (.inl rfl) rfl ?_ ?_); (first | (simp only [go_sem, simprocAttr, *, Bool.and_true, Bool.and_false, Bool.true_and, Bool.false_and, Bool.or_true, Bool.true_or, Bool.or_false, Bool.false_or, Bool.not_true, Bool.not_false, Bool.false_eq_true]; done) | contradiction | (simp_all; done) | simp only [go_sem, simprocAttr, *, Bool.and_true, Bool.and_false, Bool.true_and, Bool.false_and, Bool.or_true, Bool.true_or, Bool.or_false, Bool.false_or, Bool.not_true, Bool.not_false, Bool.false_eq_true]))


theorem flatP (f : Nat) (k n : Int) (text : ByteArray) (args : List (List PV)) (h : shapeOk Try.prog f 38 [.lit (.int .i64 k), .lit (.int .i64 n), .lit (.string text), .sl args]) : ∃ b, ACallP Try.prog 22 [valD k n text args] (bD b) := by
  obtain ⟨d, m, hd⟩ := deepP f _ h
  simp only [List.map_cons, List.map_nil] at hd
  refine ⟨decide (d ≤ 60) && decide (m ≤ 500), ?_⟩
  refine acallp_fn [2] Try.func22 rfl rfl Try.ntmps22 (by simp) fun R hR => ?_
  (refine awp_reg_seq [1] fun K hK => ?_; (repeat' (first | ((first | refine al_r rfl fun K' hK' => ?_ | refine al_d rfl fun K' hK' => ?_ | refine al_t rfl rfl fun K' hK' => ?_); (repeat (first | (simp only [go_sem, simprocAttr]) | refine AS.mk ?_ | refine AAp.grow ?_)); (first | ((first | refine hK' _ _ ?_ | refine ⟨?_, hK' _ _ ?_⟩ | refine ⟨?_, ?_, hK' _ _ ?_⟩ | refine ⟨?_, ?_, ?_, hK' _ _ ?_⟩) <;> clear hK' K' <;> (first | (show alist _ _ _ _ _ _; skip) | (intro s hs; cases hs; done) | assumption | (simp; done) | omega | (simp; omega) | skip)))) | refine al_e rfl rfl ?_ | refine al_u rfl rfl ?_ | ((fail_if_success (refine al_t rfl rfl fun K' hK' => ?_)); refine al_s _ rfl rfl rfl (fun hb => ?_) (fun hb => ?_)))); all_goals (refine al_nil ?_; (simp only [go_sem, simprocAttr]); refine hK _ ?_; clear hK K))
  (refine awp_frz [1] [] (by decide) (by simp) ?_; simp only [go_sem, simprocAttr])
  (refine awp_reg_seq [3, 4] fun K hK => ?_; (repeat' (first | ((first | refine al_r rfl fun K' hK' => ?_ | refine al_d rfl fun K' hK' => ?_ | refine al_t rfl rfl fun K' hK' => ?_); (repeat (first | (simp only [go_sem, simprocAttr]) | refine AS.mk ?_ | refine AAp.grow ?_)); (first | ((first | refine hK' _ _ ?_ | refine ⟨?_, hK' _ _ ?_⟩ | refine ⟨?_, ?_, hK' _ _ ?_⟩ | refine ⟨?_, ?_, ?_, hK' _ _ ?_⟩) <;> clear hK' K' <;> (first | (show alist _ _ _ _ _ _; skip) | (intro s hs; cases hs; done) | assumption | (simp; done) | omega | (simp; omega) | skip)) | ((show AC _ _ (D.fn 24 _) _ _); refine acall_p (f := 24) (e := rfl) (hr := rfl) (k := hK' _ _ ?_) (hc := Try.call24) (h := hcall); clear hK' K') | ((show AC _ _ (D.fn 24 _) _ _); refine acall_p (f := 24) (e := rfl) (hr := rfl) (k := hK' _ _ ?_) (hc := Try.call24) (h := hd); clear hK' K'))) | refine al_e rfl rfl ?_ | refine al_u rfl rfl ?_ | ((fail_if_success (refine al_t rfl rfl fun K' hK' => ?_)); refine al_s _ rfl rfl rfl (fun hb => ?_) (fun hb => ?_)))); all_goals (refine al_nil ?_; (simp only [go_sem, simprocAttr]); refine hK _ ?_; clear hK K))
  (refine awp_reg_tov [2] [(2, bD (decide (d ≤ 60) && decide (m ≤ 500)))] (h := ?_) (k := ?_); · ((repeat' (first | ((first | refine al_r rfl fun K' hK' => ?_ | refine al_d rfl fun K' hK' => ?_ | refine al_t rfl rfl fun K' hK' => ?_); (repeat (first | (simp only [go_sem, simprocAttr]) | refine AS.mk ?_ | refine AAp.grow ?_)); (first | ((first | refine hK' _ _ ?_ | refine ⟨?_, hK' _ _ ?_⟩ | refine ⟨?_, ?_, hK' _ _ ?_⟩ | refine ⟨?_, ?_, ?_, hK' _ _ ?_⟩) <;> clear hK' K' <;> (first | (show alist _ _ _ _ _ _; skip) | (intro s hs; cases hs; done) | assumption | (simp; done) | omega | (simp; omega) | skip)))) | refine al_e rfl rfl ?_ | refine al_u rfl rfl ?_ | ((fail_if_success (refine al_t rfl rfl fun K' hK' => ?_)); refine al_s _ rfl rfl rfl (fun hb => ?_) (fun hb => ?_)))); all_goals (refine al_nil ?_; simp only [go_sem, simprocAttr, *, Bool.and_true, Bool.and_false, Bool.true_and, Bool.false_and, Bool.or_true, Bool.true_or, Bool.or_false, Bool.false_or, Bool.not_true, Bool.not_false, Bool.false_eq_true]))); intro K hK; (simp only [go_sem, simprocAttr]); refine hK _ ?_; clear hK K
  all_goals (refine awp_ret ?_; (first | refine hR _ _ (.inl rfl) rfl ?_ | refine hR _ _ (.inl rfl) rfl ?_ ?_); (first | (simp only [go_sem, simprocAttr, *, Bool.and_true, Bool.and_false, Bool.true_and, Bool.false_and, Bool.or_true, Bool.true_or, Bool.or_false, Bool.false_or, Bool.not_true, Bool.not_false, Bool.false_eq_true]; done) | contradiction | (simp_all; done) | simp only [go_sem, simprocAttr, *, Bool.and_true, Bool.and_false, Bool.true_and, Bool.false_and, Bool.or_true, Bool.true_or, Bool.or_false, Bool.false_or, Bool.not_true, Bool.not_false, Bool.false_eq_true]))

end Go.Proofs.Ytagphggcdmjlpaa.P
