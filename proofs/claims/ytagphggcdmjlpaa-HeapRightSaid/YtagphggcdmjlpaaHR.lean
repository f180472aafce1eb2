/- Texts joined: H14, H19, H20, H21, H22. -/
import Derived.Test.YtagphggcdmjlpaaH13
import Derived.Test.YtagphggcdmjlpaaH18
set_option linter.unusedSimpArgs false
set_option linter.unusedVariables false
set_option maxHeartbeats 1000000
/- Shapes of objects and values. -/
namespace Go.Proofs.Ytagphggcdmjlpaa.P
open Go.Ab

theorem closed2 : closedT Try.prog [3, 9, 22, 23, 30, 34, 36, 38] = true := by kernel_rfl
theorem c30 : Try.prog.cellsOf 30 = 5 := by kernel_rfl
theorem c22 : Try.prog.cellsOf 22 = 1 := by kernel_rfl

theorem sh22 {f : Nat} {xs : List PV} (h : shapeOk Try.prog f 22 xs) : ∃ ls : List Int, xs = [.sl (ls.map wrow)] ∧ ls.length ≤ maxLen ∧ ∀ w, w ∈ ls → WordOk w := by
  obtain ⟨n, rows, _, e0, hmax, _, hr⟩ := shape_slice Try.underlying22 h
  obtain ⟨ls, rfl, hls⟩ := word_rows rows hr
  exact ⟨ls, e0, by simpa using hmax, hls⟩

set_option maxRecDepth 100000 in
theorem sh30 {f : Nat} {xs : List PV} (h : shapeOk Try.prog f 30 xs) : ∃ o : Obj, xs = o.row ∧ NumOk o.num ∧ ∀ w, w ∈ o.parts → WordOk w := by
  obtain ⟨m, rfl, hl, hf⟩ := shape_struct Try.underlying30 h
  rw [c30] at hl
  match xs, hl with
  | [a, b, c, d, e], _ =>
    have h0 := hf _ (List.mem_cons_self)
    have h1 := hf _ (List.mem_cons_of_mem _ List.mem_cons_self)
    have h2 := hf _ (List.mem_cons_of_mem _ (List.mem_cons_of_mem _ List.mem_cons_self))
    have h3 := hf _ (List.mem_cons_of_mem _ (List.mem_cons_of_mem _ (List.mem_cons_of_mem _ List.mem_cons_self)))
    have h5 := hf _ (List.mem_cons_of_mem _ (List.mem_cons_of_mem _ (List.mem_cons_of_mem _ (List.mem_cons_of_mem _ List.mem_cons_self))))
    simp only [c3, c9, c22, List.drop_zero, List.drop_succ_cons, List.take_succ_cons, List.take_zero] at h0 h1 h2 h3 h5
    obtain ⟨k0, e0, _⟩ := shape_int Try.underlying3 h0
    obtain ⟨k1, e1, _⟩ := shape_int Try.underlying3 h1
    obtain ⟨k2, e2, hn⟩ := shape_int Try.underlying3 h2
    obtain ⟨s, e3, _⟩ := shape_string Try.underlying9 h3
    obtain ⟨ls, e4, _, hls⟩ := sh22 h5
    simp only [List.cons.injEq, and_true] at e0 e1 e2 e3 e4
    subst e0 e1 e2 e3 e4
    exact ⟨⟨k0, k1, k2, s, ls⟩, rfl, num_wf hn, hls⟩
end Go.Proofs.Ytagphggcdmjlpaa.P
/- What is built lies in the heap as the value: plain facts. -/
namespace Go.Proofs.Ytagphggcdmjlpaa.P
open Go.Ab Go.Proofs.Ytagphggcdmjlpaa.T

abbrev HeapOk (h : List Int) : Prop := h.length ≤ BIG ∧ ∀ w, w ∈ h → WordOk w
theorem big_max {h : List Int} (hh : h.length ≤ BIG) : h.length ≤ maxLen := Nat.le_trans hh (by simp [maxLen, BIG])

theorem at_prefix {h : List Int} (hh : HeapOk h) (X : List Int) {a : Int} {o : Obj} (ha : atS h a = (o, 0)) : atS (h ++ X) a = (o, 0) := by
  have h0 : (atS h a).2 = 0 := by rw [ha]
  obtain ⟨n, hn, hnl, hoa, hri, _, hle, henc⟩ := at_ok h0 (big_max hh.1) hh.2
  have hnum := at_num h a
  rw [ha] at hoa hri hle henc hnum
  simp only at hoa hri hle henc hnum
  subst hn
  have hl : (h.take n).length = n := by rw [List.length_take]; omega
  have hsp0 : h = h.take n ++ (encW o ++ (h.drop n).drop (encW o).length) := by
    conv => lhs; rw [← List.take_append_drop n h]
    congr 1
    conv => lhs; rw [← List.take_append_drop (encW o).length (h.drop n)]
    rw [← henc]
  have hsp : h ++ X = h.take n ++ (encW o ++ ((h.drop n).drop (encW o).length ++ X)) := by
    conv => lhs; rw [hsp0]
    rw [List.append_assoc, List.append_assoc]
  have := at_enc (h.take n) ((h.drop n).drop (encW o).length ++ X) o hri hnum
  rw [← hsp, hl] at this
  rw [this]
  obtain ⟨oa, k, m, t, p⟩ := o
  simp only at hoa
  subst hoa
  rfl

theorem Rep.prefix_ {g : List Int} (hg : HeapOk g) (X : List Int) : ∀ {f : Nat} (w : Int) (xs : List PV) (d c : Nat), Rep g f w xs d c → Rep (g ++ X) f w xs d c
  | 0, _, _, _, _, h => h.elim
  | f + 1, w, xs, d, c, h => by
    obtain ⟨k, n, text, args, e, h | ⟨a, o, d0, c0, h1, h2, h3, h4, h5, h6, h7, h8, h9⟩⟩ := h
    · exact ⟨k, n, text, args, e, .inl h⟩
    · exact ⟨k, n, text, args, e, .inr ⟨a, o, d0, c0, h1, h2, at_prefix hg X h3, h4, h5, h6, h7, h8.mono (Rep.prefix_ hg X), h9⟩⟩

/-- What is made of a heap for a value. -/
def Made (h : List Int) (r : List Int × Int × Int) (xs : List PV) : Prop :=
  (r.2.2 ≠ 0 ∧ r.1 = [] ∧ r.2.1 = 0) ∨ (r.2.2 = 0 ∧ WordOk r.2.1 ∧ r.1.length ≤ BIG ∧ ∃ (L : List Obj) (f d c : Nat), r.1 = h ++ flat L ∧ (∀ o, o ∈ L → ObjOk o) ∧ (L = [] ∨ r.1.length ≤ 4000) ∧ Rep r.1 f r.2.1 xs d c ∧ c ≤ 1 + (flat L).length)
theorem made_err {h : List Int} {e : Int} {xs : List PV} (he : e ≠ 0) : Made h ([], 0, e) xs := .inl ⟨he, rfl, rfl⟩
theorem made_ok {h r : List Int} {w e : Int} {xs : List PV} (he : e = 0) (hw : WordOk w) (hl : r.length ≤ BIG) (L : List Obj) (f d c : Nat) (h1 : r = h ++ flat L) (h2 : ∀ o, o ∈ L → ObjOk o) (h3 : L = [] ∨ r.length ≤ 4000) (h4 : Rep r f w xs d c) (h5 : c ≤ 1 + (flat L).length) : Made h (r, w, e) xs :=
  .inr ⟨he, hw, hl, L, f, d, c, h1, h2, h3, h4, h5⟩

theorem grow_ok {h : List Int} (hh : HeapOk h) {L : List Obj} (hL : ∀ o, o ∈ L → ObjOk o) (hl : (h ++ flat L).length ≤ BIG) : HeapOk (h ++ flat L) :=
  ⟨hl, fun w hw => by
    rcases List.mem_append.1 hw with hw | hw
    · exact hh.2 w hw
    · exact flat_ok (fun o ho => (hL o ho).2.2) w hw⟩

theorem foldB_made {F : List Int → List PV → List Int × Int × Int} : ∀ (l : List (List PV)) (g ws : List Int), HeapOk g → (∀ x, x ∈ l → ∀ g, HeapOk g → Made g (F g x) x) → (foldB F l g ws).2.2 = 0 →
    HeapOk (foldB F l g ws).1 ∧ ∃ (ws1 : List Int) (L : List Obj) (f d c : Nat), (foldB F l g ws).2.1 = ws ++ ws1 ∧ (foldB F l g ws).1 = g ++ flat L ∧ (∀ o, o ∈ L → ObjOk o) ∧ (L = [] ∨ (foldB F l g ws).1.length ≤ 4000) ∧
      RepL (Rep (foldB F l g ws).1 f) ws1 l d c ∧ c ≤ l.length + (flat L).length ∧ ∀ w, w ∈ ws1 → WordOk w
  | [], g, ws, hg, _, _ => ⟨hg, [], [], 0, 0, 0, by simp [foldB], by simp [foldB, flat], by simp, .inl rfl, ⟨rfl, rfl⟩, Nat.zero_le _, by simp⟩
  | x :: l, g, ws, hg, hF, he => by
    have hfd : foldB F (x :: l) g ws = if (F g x).2.2 != 0 then ([], [], (F g x).2.2) else foldB F l (F g x).1 (ws ++ [(F g x).2.1]) := rfl
    rw [hfd] at he ⊢
    by_cases hc : ((F g x).2.2 != 0) = true
    · rw [if_pos hc] at he
      simp at hc
      exact absurd he hc
    · rw [if_neg hc] at he ⊢
      rcases hF x List.mem_cons_self g hg with ⟨h1, _⟩ | ⟨_, h2, h3, L1, f1, d1, c1, h4, h5, h6, h7, h8⟩
      · exact absurd h1 (by simpa using hc)
      · have hg1 : HeapOk (F g x).1 := by rw [h4]; exact grow_ok hg h5 (by rw [← h4]; exact h3)
        obtain ⟨r0, ws2, L2, f2, d2, c2, r1, r2, r3, r4, r5, r6, r7⟩ := foldB_made l (F g x).1 (ws ++ [(F g x).2.1]) hg1 (fun y hy => hF y (List.mem_cons_of_mem _ hy)) he
        refine ⟨r0, (F g x).2.1 :: ws2, L1 ++ L2, max f1 f2, max d1 d2, c1 + c2, by rw [r1]; simp, by rw [r2, flat_append, ← List.append_assoc, ← h4], fun o ho => ?_, ?_, ?_, ?_, fun w hw => ?_⟩
        · rcases List.mem_append.1 ho with h | h
          · exact h5 o h
          · exact r3 o h
        · rcases r4 with r4 | r4
          · subst r4
            rcases h6 with h6 | h6
            · subst h6; exact .inl rfl
            · refine .inr ?_
              rw [r2]
              simpa [flat] using h6
          · exact .inr r4
        · refine ⟨d1, c1, d2, c2, ?_, r5.mono (Rep.mono (Nat.le_max_right _ _)), rfl, rfl⟩
          have := Rep.prefix_ hg1 (flat L2) _ _ _ _ h7
          rw [← r2] at this
          exact Rep.mono (Nat.le_max_left _ _) _ _ _ _ this
        · rw [flat_append, List.length_append, List.length_cons]; omega
        · rcases List.mem_cons.1 hw with rfl | hw
          · exact h2
          · exact r7 w hw

theorem kindB_back {k n : Int} (h : (kindB k n).1 ≠ 0) : kindsS (kindB k n).1 = k := by
  unfold kindB at h ⊢
  by_cases h1 : (k == 2) = true
  · rw [if_pos h1]; simp at h1; rw [h1]; rfl
  rw [if_neg h1] at h ⊢
  by_cases h2 : (k == 4) = true
  · rw [if_pos h2]; simp at h2; rw [h2]; rfl
  rw [if_neg h2] at h ⊢
  by_cases h3 : (k == 5) = true
  · rw [if_pos h3]; simp at h3; rw [h3]; rfl
  rw [if_neg h3] at h ⊢
  by_cases h4 : (k == 7) = true
  · rw [if_pos h4]; simp at h4; rw [h4]; rfl
  rw [if_neg h4] at h ⊢
  by_cases h5 : (k == 8) = true
  · rw [if_pos h5]; simp at h5; rw [h5]; rfl
  rw [if_neg h5] at h
  exact absurd rfl h

theorem kindB_num {k n : Int} (h : ¬ (n != 0 && (kindB k n).2 == 0) = true) : (kindB k n).2 = n := by
  have : (kindB k n).2 = n ∨ (kindB k n).2 = 0 := by
    unfold kindB
    split
    · exact .inl rfl
    split
    · exact .inr rfl
    split
    · exact .inr rfl
    split
    · exact .inl rfl
    split <;> exact .inr rfl
  rcases this with h1 | h1
  · exact h1
  · rw [h1] at h ⊢
    simp at h
    exact h.symm

theorem buildN_made {F : List Int → List PV → List Int × Int × Int} {h : List Int} {k n : Int} {text : ByteArray} {args : List (List PV)} (hh : HeapOk h) (hn : NumOk n)
    (hF : ∀ x, x ∈ args → ∀ g, HeapOk g → Made g (F g x) x) : Made h (buildN F h k n text args) [.lit (.int .i64 k), .lit (.int .i64 n), .lit (.string text), .sl args] := by
  have hWk := wordS_ok
  have hw4 : ∀ m : Nat, m ≤ 4000 → (wordS 4 (m : Int)).2 = 0 := fun m => word4
  have hofk := ofS_ok k n text args
  unfold buildN
  by_cases h0 : (ofS k n text args).2 = true
  · rw [if_pos h0]
    exact made_ok rfl hofk hh.1 [] 1 1 1 (by simp [flat]) (by simp) (.inl rfl) ⟨k, n, text, args, rfl, .inl ⟨h0, rfl, rfl, rfl⟩⟩ (by omega)
  rw [if_neg h0]
  by_cases h1 : ((kindB k n).1 == 0) = true
  · rw [if_pos h1]; exact made_err (by decide)
  rw [if_neg h1]
  by_cases h2 : (n != 0 && (kindB k n).2 == 0) = true
  · rw [if_pos h2]; exact made_err (by decide)
  rw [if_neg h2]
  have hkk := kindB_back (k := k) (n := n) (by simpa using h1)
  have hnn := kindB_num h2
  generalize (kindB k n).1 = kk at *
  generalize (kindB k n).2 = nn at *
  subst hnn
  by_cases h3 : ((foldB F args h []).2.2 != 0) = true
  · rw [if_pos h3]; exact made_err (by simpa using h3)
  rw [if_neg h3]
  obtain ⟨r0, ws1, L, f, d, c, r1, r2, r3, r4, r5, r6, r7⟩ := foldB_made args h [] hh hF (by simpa using h3)
  rw [List.nil_append] at r1
  generalize foldB F args h [] = Q at *
  obtain ⟨g, ws, e⟩ := Q
  simp only at r0 r1 r2 r4 r5 ⊢
  subst r1
  have hwl := r5.len
  have hel := enc_len ⟨0, kk, nn, text, ws⟩
  have hae : rightS ⟨0, kk, nn, text, ws⟩ = true → atS (g ++ encW ⟨0, kk, nn, text, ws⟩) g.length = ((⟨0, kk, nn, text, ws⟩ : Obj).to g.length, 0) := fun hr => by
    have := at_enc g [] ⟨0, kk, nn, text, ws⟩ hr hn
    rwa [List.append_nil] at this
  have hrt : rightS ((⟨0, kk, nn, text, ws⟩ : Obj).to g.length) = rightS ⟨0, kk, nn, text, ws⟩ := rfl
  unfold putS
  by_cases hr : (!rightS ⟨0, kk, nn, text, ws⟩) = true
  · rw [if_pos hr]
    exact made_err (by decide)
  rw [if_neg hr]
  have hr : rightS ⟨0, kk, nn, text, ws⟩ = true := by
    generalize rightS (⟨0, kk, nn, text, ws⟩ : Obj) = b at hr ⊢
    simpa using hr
  have hae := hae hr
  by_cases hl : decide ((g.length : Int) > 4000 - (roomN kk text.size ws.length : Int)) = true
  · rw [if_pos hl]
    exact made_err (by decide)
  rw [if_neg hl]
  simp only [decide_eq_true_eq] at hl
  simp only at hel ⊢
  have hg4 : g.length ≤ 4000 := by omega
  have e1 := hw4 g.length hg4
  have e2 := hWk 4 (g.length : Int)
  rw [if_neg (by simp)]
  have hlen : (g ++ encW ⟨0, kk, nn, text, ws⟩).length ≤ 4000 := by rw [List.length_append, hel]; omega
  have hroom : ws.length + 1 ≤ (encW ⟨0, kk, nn, text, ws⟩).length := by rw [hel]; unfold roomN; omega
  refine made_ok e1 e2 (by simp only [BIG]; omega) (L ++ [⟨0, kk, nn, text, ws⟩]) (f + 1) (d + 1) (c + 1) (by rw [r2, flat_append, List.append_assoc]; simp [flat]) (fun o ho => ?_) (.inr hlen) ?_ ?_
  · rcases List.mem_append.1 ho with h | h
    · exact r3 o h
    · rw [List.mem_singleton.1 h]
      exact ⟨hr, hn, r7⟩
  · exact ⟨k, nn, text, args, rfl, .inr ⟨g.length, _, d, c, hg4, rfl, hae, by rw [hrt]; exact hr, hkk, rfl, rfl, r5.mono (Rep.prefix_ r0 _), rfl, rfl⟩⟩
  · rw [flat_append, List.length_append]
    have : (flat [(⟨0, kk, nn, text, ws⟩ : Obj)]).length = (encW ⟨0, kk, nn, text, ws⟩).length := by simp [flat]
    omega
end Go.Proofs.Ytagphggcdmjlpaa.P
/- Values that were built are read, and are as deep as they were: contracts. -/
namespace Go.Proofs.Ytagphggcdmjlpaa.P
open Go.Ab Go.Proofs.Ytagphggcdmjlpaa.T


theorem sameVal : ∀ (f : Nat) (xs : List PV), shapeOk Try.prog f 38 xs → ACallP Try.prog 26 [.agg (xs.map .p), .agg (xs.map .p)] (bD true) := by
  intro f
  induction f using Nat.strongRecOn
  rename_i f ih
  intro xs hxs
  obtain ⟨k, n, text, args, g, rfl, hg, hmax, _, _, hargs⟩ := sh38 hxs
  refine acallp_fn [4] Try.func26 rfl rfl Try.ntmps26 (by simp) fun R hR => ?_
  (refine awp_reg_seq [2, 3] fun K hK => ?_; (repeat' (first | ((first | refine al_r rfl fun K' hK' => ?_ | refine al_d rfl fun K' hK' => ?_ | refine al_t rfl rfl fun K' hK' => ?_); (repeat (first | (simp only [go_sem, simprocAttr]) | refine AS.mk ?_ | refine AAp.grow ?_)); (first | ((first | refine hK' _ _ ?_ | refine ⟨?_, hK' _ _ ?_⟩ | refine ⟨?_, ?_, hK' _ _ ?_⟩ | refine ⟨?_, ?_, ?_, hK' _ _ ?_⟩) <;> clear hK' K' <;> (first | (show alist _ _ _ _ _ _; skip) | (intro s hs; cases hs; done) | assumption | (simp; done) | omega | (simp; omega) | skip)))) | refine al_e rfl rfl ?_ | refine al_u rfl rfl ?_ | ((fail_if_success (refine al_t rfl rfl fun K' hK' => ?_)); refine al_s _ rfl rfl rfl (fun hb => ?_) (fun hb => ?_)))); all_goals (refine al_nil ?_; (simp only [go_sem, simprocAttr]); refine hK _ ?_; clear hK K))
  (refine awp_frz [2, 3] [] (by decide) (by simp) ?_; simp only [go_sem, simprocAttr])
  refine awp_seq_k fun K hK => ?_

  refine awp_reg_tov [2, 3, 33] [(33, bD false)] (h := ?_) (k := ?_)
  · all_goals ((repeat' (first | ((first | refine al_r rfl fun K' hK' => ?_ | refine al_d rfl fun K' hK' => ?_ | refine al_t rfl rfl fun K' hK' => ?_); (repeat (first | (simp only [go_sem, simprocAttr, bne_self_eq_false]) | refine AS.mk ?_ | refine AAp.grow ?_)); (first | ((first | refine hK' _ _ ?_ | refine ⟨?_, hK' _ _ ?_⟩ | refine ⟨?_, ?_, hK' _ _ ?_⟩ | refine ⟨?_, ?_, ?_, hK' _ _ ?_⟩) <;> clear hK' K' <;> (first | (show alist _ _ _ _ _ _; skip) | (intro s hs; cases hs; done) | assumption | (simp; done) | omega | (simp; omega) | skip)))) | refine al_e rfl rfl ?_ | refine al_u rfl rfl ?_ | ((fail_if_success (refine al_t rfl rfl fun K' hK' => ?_)); refine al_s _ rfl rfl rfl (fun hb => ?_) (fun hb => ?_)))); all_goals (refine al_nil ?_; (first | (simp only [go_sem, simprocAttr, bne_self_eq_false, *, Bool.and_true, Bool.and_false, Bool.true_and, Bool.false_and, Bool.or_true, Bool.true_or, Bool.or_false, Bool.false_or, Bool.not_true, Bool.not_false, Bool.false_eq_true]; done) | contradiction | (simp_all; done) | simp only [go_sem, simprocAttr, bne_self_eq_false, *, Bool.and_true, Bool.and_false, Bool.true_and, Bool.false_and, Bool.or_true, Bool.true_or, Bool.or_false, Bool.false_or, Bool.not_true, Bool.not_false, Bool.false_eq_true])))
  (intro K hK; (simp only [go_sem, simprocAttr, bne_self_eq_false]); refine hK _ ?_; clear hK K)
  refine awp_if (_) rfl (fun hc => ?_) (fun hc => ?_)
  · cases hc
  · refine awp_skip ?_
    refine hK _ ?_; clear hK K
    refine awp_seq_k fun K hK => ?_
    (refine awp_reg_seq [2, 3, 36, 37] fun K hK => ?_; (repeat' (first | ((first | refine al_r rfl fun K' hK' => ?_ | refine al_d rfl fun K' hK' => ?_ | refine al_t rfl rfl fun K' hK' => ?_); (repeat (first | (simp only [go_sem, simprocAttr, bne_self_eq_false]) | refine AS.mk ?_ | refine AAp.grow ?_)); (first | ((first | refine hK' _ _ ?_ | refine ⟨?_, hK' _ _ ?_⟩ | refine ⟨?_, ?_, hK' _ _ ?_⟩ | refine ⟨?_, ?_, ?_, hK' _ _ ?_⟩) <;> clear hK' K' <;> (first | (show alist _ _ _ _ _ _; skip) | (intro s hs; cases hs; done) | assumption | (simp; done) | omega | (simp; omega) | skip)))) | refine al_e rfl rfl ?_ | refine al_u rfl rfl ?_ | ((fail_if_success (refine al_t rfl rfl fun K' hK' => ?_)); refine al_s _ rfl rfl rfl (fun hb => ?_) (fun hb => ?_)))); all_goals (refine al_nil ?_; (simp only [go_sem, simprocAttr, bne_self_eq_false]); refine hK _ ?_; clear hK K))
    refine awp_block ?_
    -- loop 0 head [2, 3, 36, 37]
    refine awp_loop (fun m s => ∃ i : Nat, i ≤ args.length ∧ m = args.length - i ∧ s = ⟨ofL [(2, .rd [.lit (.int .i64 k), .lit (.int .i64 n), .lit (.string text), .sl args] 0), (3, .rd [.lit (.int .i64 k), .lit (.int .i64 n), .lit (.string text), .sl args] 0), (36, iD args.length), (37, iD i)], [], 0⟩) ⟨_, 0, Nat.zero_le _, rfl, rfl⟩ ?_
    rintro m s ⟨i, hi, rfl, rfl⟩
    (refine awp_reg_seq [2, 3, 36, 37, 38] fun K hK => ?_; (repeat' (first | ((first | refine al_r rfl fun K' hK' => ?_ | refine al_d rfl fun K' hK' => ?_ | refine al_t rfl rfl fun K' hK' => ?_); (repeat (first | (simp only [go_sem, simprocAttr, bne_self_eq_false]) | refine AS.mk ?_ | refine AAp.grow ?_)); (first | ((first | refine hK' _ _ ?_ | refine ⟨?_, hK' _ _ ?_⟩ | refine ⟨?_, ?_, hK' _ _ ?_⟩ | refine ⟨?_, ?_, ?_, hK' _ _ ?_⟩) <;> clear hK' K' <;> (first | (show alist _ _ _ _ _ _; skip) | (intro s hs; cases hs; done) | assumption | (simp; done) | omega | (simp; omega) | skip)))) | refine al_e rfl rfl ?_ | refine al_u rfl rfl ?_ | ((fail_if_success (refine al_t rfl rfl fun K' hK' => ?_)); refine al_s _ rfl rfl rfl (fun hb => ?_) (fun hb => ?_)))); all_goals (refine al_nil ?_; (simp only [go_sem, simprocAttr, bne_self_eq_false]); refine hK _ ?_; clear hK K))
    refine awp_seq_k fun K hK => ?_
    refine awp_if (decide ((i : Int) < args.length)) rfl (fun hc => ?_) (fun hc => ?_)
    · refine awp_skip ?_
      refine hK _ ?_; clear hK K
      refine awp_seq_k fun K hK => ?_
      refine awp_block ?_
      have hi2 : i < args.length := by simpa using hc
      obtain ⟨x, hget⟩ := get_of_lt hi2
      have hnn : (0 : Int) ≤ (i : Int) := Int.natCast_nonneg i
      have hnx : IntKind.i64.wrap ((i : Int) + 1) = ((i + 1 : Nat) : Int) := wrap_next hi2 hmax
      obtain ⟨hx4, hxs⟩ := hargs x (List.mem_of_getElem? hget)
      have hcall := ih g hg x hxs
      obtain ⟨y0, y1, y2, y3, _, rfl, _, _⟩ := sh38 hxs
      simp only [List.map_cons, List.map_nil] at hcall

      (refine awp_reg_seq [2, 3, 5, 36, 37] fun K hK => ?_; (repeat' (first | ((first | refine al_r rfl fun K' hK' => ?_ | refine al_d rfl fun K' hK' => ?_ | refine al_t rfl rfl fun K' hK' => ?_); (repeat (first | (simp only [go_sem, simprocAttr, hget, hnn, hi2, hnx, Int.toNat_natCast]) | refine AS.mk ?_ | refine AAp.grow ?_)); (first | ((first | refine hK' _ _ ?_ | refine ⟨?_, hK' _ _ ?_⟩ | refine ⟨?_, ?_, hK' _ _ ?_⟩ | refine ⟨?_, ?_, ?_, hK' _ _ ?_⟩) <;> clear hK' K' <;> (first | (show alist _ _ _ _ _ _; skip) | (intro s hs; cases hs; done) | assumption | (simp; done) | omega | (simp; omega) | skip)))) | refine al_e rfl rfl ?_ | refine al_u rfl rfl ?_ | ((fail_if_success (refine al_t rfl rfl fun K' hK' => ?_)); refine al_s _ rfl rfl rfl (fun hb => ?_) (fun hb => ?_)))); all_goals (refine al_nil ?_; (simp only [go_sem, simprocAttr, hget, hnn, hi2, hnx, Int.toNat_natCast]); refine hK _ ?_; clear hK K))
      refine awp_draw_tov (by kernel_rfl) [2, 3, 36, 37, 51] [(51, bD false)] (h := ?_) (k := ?_)
      · all_goals (first | (first | refine ah_r 0 rfl (by kernel_rfl) rfl fun K' hK' => ?_ | refine ah_t 0 rfl (by kernel_rfl) rfl rfl fun K' hK' => ?_); (simp only [go_sem, simprocAttr, hget, hnn, hi2, hnx, Int.toNat_natCast]); (first | (refine hK' _ ?_); clear hK' K' | ((first | refine ⟨?_, hK' _ ?_⟩ | refine ⟨?_, ?_, hK' _ ?_⟩) <;> clear hK' K' <;> (first | (show alist _ _ _ _ _ _; skip) | (intro s hs; cases hs; done) | assumption | (simp; done) | omega | (simp; omega) | skip))) | refine ah_e 0 rfl (by kernel_rfl) rfl rfl ?_ | refine ah_u 0 rfl (by kernel_rfl) rfl rfl ?_)
        all_goals (first | (first | refine ah_r 1 rfl (by kernel_rfl) rfl fun K' hK' => ?_ | refine ah_t 1 rfl (by kernel_rfl) rfl rfl fun K' hK' => ?_); (simp only [go_sem, simprocAttr, hget, hnn, hi2, hnx, Int.toNat_natCast]); (first | (refine hK' _ ?_); clear hK' K' | ((first | refine ⟨?_, hK' _ ?_⟩ | refine ⟨?_, ?_, hK' _ ?_⟩) <;> clear hK' K' <;> (first | (show alist _ _ _ _ _ _; skip) | (intro s hs; cases hs; done) | assumption | (simp; done) | omega | (simp; omega) | skip))) | refine ah_e 1 rfl (by kernel_rfl) rfl rfl ?_ | refine ah_u 1 rfl (by kernel_rfl) rfl rfl ?_)
        all_goals (first | (first | refine ah_r 2 rfl (by kernel_rfl) rfl fun K' hK' => ?_ | refine ah_t 2 rfl (by kernel_rfl) rfl rfl fun K' hK' => ?_); (simp only [go_sem, simprocAttr, hget, hnn, hi2, hnx, Int.toNat_natCast]); (first | (refine hK' _ ?_); clear hK' K' | ((first | refine ⟨?_, hK' _ ?_⟩ | refine ⟨?_, ?_, hK' _ ?_⟩) <;> clear hK' K' <;> (first | (show alist _ _ _ _ _ _; skip) | (intro s hs; cases hs; done) | assumption | (simp; done) | omega | (simp; omega) | skip))) | refine ah_e 2 rfl (by kernel_rfl) rfl rfl ?_ | refine ah_u 2 rfl (by kernel_rfl) rfl rfl ?_)
        all_goals (first | (first | refine ah_r 3 rfl (by kernel_rfl) rfl fun K' hK' => ?_ | refine ah_t 3 rfl (by kernel_rfl) rfl rfl fun K' hK' => ?_); (simp only [go_sem, simprocAttr, hget, hnn, hi2, hnx, Int.toNat_natCast]); (first | (refine hK' _ ?_); clear hK' K' | ((first | refine ⟨?_, hK' _ ?_⟩ | refine ⟨?_, ?_, hK' _ ?_⟩) <;> clear hK' K' <;> (first | (show alist _ _ _ _ _ _; skip) | (intro s hs; cases hs; done) | assumption | (simp; done) | omega | (simp; omega) | skip))) | refine ah_e 3 rfl (by kernel_rfl) rfl rfl ?_ | refine ah_u 3 rfl (by kernel_rfl) rfl rfl ?_)
        all_goals (first | (first | refine ah_r 4 rfl (by kernel_rfl) rfl fun K' hK' => ?_ | refine ah_t 4 rfl (by kernel_rfl) rfl rfl fun K' hK' => ?_); (simp only [go_sem, simprocAttr, hget, hnn, hi2, hnx, Int.toNat_natCast]); (first | (refine hK' _ ?_); clear hK' K' | ((first | refine ⟨?_, hK' _ ?_⟩ | refine ⟨?_, ?_, hK' _ ?_⟩) <;> clear hK' K' <;> (first | (show alist _ _ _ _ _ _; skip) | (intro s hs; cases hs; done) | assumption | (simp; done) | omega | (simp; omega) | skip))) | refine ah_e 4 rfl (by kernel_rfl) rfl rfl ?_ | refine ah_u 4 rfl (by kernel_rfl) rfl rfl ?_)
        all_goals (first | (first | refine ah_r 5 rfl (by kernel_rfl) rfl fun K' hK' => ?_ | refine ah_t 5 rfl (by kernel_rfl) rfl rfl fun K' hK' => ?_); (simp only [go_sem, simprocAttr, hget, hnn, hi2, hnx, Int.toNat_natCast]); (first | (refine hK' _ ?_); clear hK' K' | ((first | refine ⟨?_, hK' _ ?_⟩ | refine ⟨?_, ?_, hK' _ ?_⟩) <;> clear hK' K' <;> (first | (show alist _ _ _ _ _ _; skip) | (intro s hs; cases hs; done) | assumption | (simp; done) | omega | (simp; omega) | skip))) | refine ah_e 5 rfl (by kernel_rfl) rfl rfl ?_ | refine ah_u 5 rfl (by kernel_rfl) rfl rfl ?_)
        all_goals (first | (first | refine ah_r 6 rfl (by kernel_rfl) rfl fun K' hK' => ?_ | refine ah_t 6 rfl (by kernel_rfl) rfl rfl fun K' hK' => ?_); (simp only [go_sem, simprocAttr, hget, hnn, hi2, hnx, Int.toNat_natCast]); (first | (refine hK' _ ?_); clear hK' K' | ((first | refine ⟨?_, hK' _ ?_⟩ | refine ⟨?_, ?_, hK' _ ?_⟩) <;> clear hK' K' <;> (first | (show alist _ _ _ _ _ _; skip) | (intro s hs; cases hs; done) | assumption | (simp; done) | omega | (simp; omega) | skip))) | refine ah_e 6 rfl (by kernel_rfl) rfl rfl ?_ | refine ah_u 6 rfl (by kernel_rfl) rfl rfl ?_)
        all_goals (first | (first | refine ah_r 7 rfl (by kernel_rfl) rfl fun K' hK' => ?_ | refine ah_t 7 rfl (by kernel_rfl) rfl rfl fun K' hK' => ?_); (simp only [go_sem, simprocAttr, hget, hnn, hi2, hnx, Int.toNat_natCast]); (first | (refine hK' _ ?_); clear hK' K' | ((first | refine ⟨?_, hK' _ ?_⟩ | refine ⟨?_, ?_, hK' _ ?_⟩) <;> clear hK' K' <;> (first | (show alist _ _ _ _ _ _; skip) | (intro s hs; cases hs; done) | assumption | (simp; done) | omega | (simp; omega) | skip))) | refine ah_e 7 rfl (by kernel_rfl) rfl rfl ?_ | refine ah_u 7 rfl (by kernel_rfl) rfl rfl ?_)
        all_goals (first | (first | refine ah_r 8 rfl (by kernel_rfl) rfl fun K' hK' => ?_ | refine ah_t 8 rfl (by kernel_rfl) rfl rfl fun K' hK' => ?_); (simp only [go_sem, simprocAttr, hget, hnn, hi2, hnx, Int.toNat_natCast]); (first | (refine hK' _ ?_); clear hK' K' | ((first | refine ⟨?_, hK' _ ?_⟩ | refine ⟨?_, ?_, hK' _ ?_⟩) <;> clear hK' K' <;> (first | (show alist _ _ _ _ _ _; skip) | (intro s hs; cases hs; done) | assumption | (simp; done) | omega | (simp; omega) | skip))) | refine ah_e 8 rfl (by kernel_rfl) rfl rfl ?_ | refine ah_u 8 rfl (by kernel_rfl) rfl rfl ?_)
        all_goals (first | (first | refine ah_r 9 rfl (by kernel_rfl) rfl fun K' hK' => ?_ | refine ah_t 9 rfl (by kernel_rfl) rfl rfl fun K' hK' => ?_); (simp only [go_sem, simprocAttr, hget, hnn, hi2, hnx, Int.toNat_natCast]); (first | (refine hK' _ ?_); clear hK' K' | ((first | refine ⟨?_, hK' _ ?_⟩ | refine ⟨?_, ?_, hK' _ ?_⟩) <;> clear hK' K' <;> (first | (show alist _ _ _ _ _ _; skip) | (intro s hs; cases hs; done) | assumption | (simp; done) | omega | (simp; omega) | skip))) | refine ah_e 9 rfl (by kernel_rfl) rfl rfl ?_ | refine ah_u 9 rfl (by kernel_rfl) rfl rfl ?_)
        all_goals (refine ah_one 10 rfl (by kernel_rfl) ?_; (repeat' (first | ((first | refine al_r rfl fun K' hK' => ?_ | refine al_d rfl fun K' hK' => ?_ | refine al_t rfl rfl fun K' hK' => ?_); (repeat (first | (simp only [go_sem, simprocAttr, hget, hnn, hi2, hnx, Int.toNat_natCast]) | refine AS.mk ?_ | refine AAp.grow ?_)); (first | ((first | refine hK' _ _ ?_ | refine ⟨?_, hK' _ _ ?_⟩ | refine ⟨?_, ?_, hK' _ _ ?_⟩ | refine ⟨?_, ?_, ?_, hK' _ _ ?_⟩) <;> clear hK' K' <;> (first | (show alist _ _ _ _ _ _; skip) | (intro s hs; cases hs; done) | assumption | (simp; done) | omega | (simp; omega) | skip)) | ((show AC _ _ (D.fn 26 _) _ _); refine acall_p (f := 26) (e := rfl) (hr := rfl) (k := hK' _ _ ?_) (hc := Try.call26) (h := hcall); clear hK' K'))) | refine al_e rfl rfl ?_ | refine al_u rfl rfl ?_ | ((fail_if_success (refine al_t rfl rfl fun K' hK' => ?_)); refine al_s _ rfl rfl rfl (fun hb => ?_) (fun hb => ?_)))); all_goals refine al_nil ?_)
        all_goals (first | (first | refine ah_r 11 rfl (by kernel_rfl) rfl fun K' hK' => ?_ | refine ah_t 11 rfl (by kernel_rfl) rfl rfl fun K' hK' => ?_); (simp only [go_sem, simprocAttr, hget, hnn, hi2, hnx, Int.toNat_natCast]); (first | (refine hK' _ ?_); clear hK' K' | ((first | refine ⟨?_, hK' _ ?_⟩ | refine ⟨?_, ?_, hK' _ ?_⟩) <;> clear hK' K' <;> (first | (show alist _ _ _ _ _ _; skip) | (intro s hs; cases hs; done) | assumption | (simp; done) | omega | (simp; omega) | skip))) | refine ah_e 11 rfl (by kernel_rfl) rfl rfl ?_ | refine ah_u 11 rfl (by kernel_rfl) rfl rfl ?_)
        all_goals (refine ah_done (by kernel_rfl) ?_; simp only [go_sem, simprocAttr, hget, hnn, hi2, hnx, Int.toNat_natCast, *, Bool.and_true, Bool.and_false, Bool.true_and, Bool.false_and, Bool.or_true, Bool.true_or, Bool.or_false, Bool.false_or, Bool.not_true, Bool.not_false, Bool.false_eq_true])
      (intro K hK; (simp only [go_sem, simprocAttr, hget, hnn, hi2, hnx, Int.toNat_natCast]); refine hK _ ?_; clear hK K)
      refine awp_if (_) rfl (fun hc => ?_) (fun hc => ?_)
      · cases hc
      · refine awp_skip ?_
        refine hK _ ?_; clear hK K
        (refine awp_reg_end [2, 3, 36, 37] fun K hK => ?_; (repeat' (first | ((first | refine al_r rfl fun K' hK' => ?_ | refine al_d rfl fun K' hK' => ?_ | refine al_t rfl rfl fun K' hK' => ?_); (repeat (first | (simp only [go_sem, simprocAttr, hget, hnn, hi2, hnx, Int.toNat_natCast]) | refine AS.mk ?_ | refine AAp.grow ?_)); (first | ((first | refine hK' _ _ ?_ | refine ⟨?_, hK' _ _ ?_⟩ | refine ⟨?_, ?_, hK' _ _ ?_⟩ | refine ⟨?_, ?_, ?_, hK' _ _ ?_⟩) <;> clear hK' K' <;> (first | (show alist _ _ _ _ _ _; skip) | (intro s hs; cases hs; done) | assumption | (simp; done) | omega | (simp; omega) | skip)))) | refine al_e rfl rfl ?_ | refine al_u rfl rfl ?_ | ((fail_if_success (refine al_t rfl rfl fun K' hK' => ?_)); refine al_s _ rfl rfl rfl (fun hb => ?_) (fun hb => ?_)))); all_goals (refine al_nil ?_; (simp only [go_sem, simprocAttr, hget, hnn, hi2, hnx, Int.toNat_natCast]); refine hK _ ?_; clear hK K))
        exact ⟨_, by omega, i + 1, hi2, rfl, rfl⟩

    · refine awp_exit ?_
      clear hK
      refine hK _ ?_; clear hK K
      (refine awp_reg_seq [4] fun K hK => ?_; (repeat' (first | ((first | refine al_r rfl fun K' hK' => ?_ | refine al_d rfl fun K' hK' => ?_ | refine al_t rfl rfl fun K' hK' => ?_); (repeat (first | (simp only [go_sem, simprocAttr]) | refine AS.mk ?_ | refine AAp.grow ?_)); (first | ((first | refine hK' _ _ ?_ | refine ⟨?_, hK' _ _ ?_⟩ | refine ⟨?_, ?_, hK' _ _ ?_⟩ | refine ⟨?_, ?_, ?_, hK' _ _ ?_⟩) <;> clear hK' K' <;> (first | (show alist _ _ _ _ _ _; skip) | (intro s hs; cases hs; done) | assumption | (simp; done) | omega | (simp; omega) | skip)))) | refine al_e rfl rfl ?_ | refine al_u rfl rfl ?_ | ((fail_if_success (refine al_t rfl rfl fun K' hK' => ?_)); refine al_s _ rfl rfl rfl (fun hb => ?_) (fun hb => ?_)))); all_goals (refine al_nil ?_; (simp only [go_sem, simprocAttr]); refine hK _ ?_; clear hK K))
      all_goals (refine awp_ret ?_; (first | refine hR _ _ (.inl rfl) rfl ?_ | refine hR _ _ (.inl rfl) rfl ?_ ?_); (first | (simp only [go_sem, simprocAttr, *, Bool.and_true, Bool.and_false, Bool.true_and, Bool.false_and, Bool.or_true, Bool.true_or, Bool.or_false, Bool.false_or, Bool.not_true, Bool.not_false, Bool.false_eq_true]; done) | contradiction | (simp_all; done) | simp only [go_sem, simprocAttr, *, Bool.and_true, Bool.and_false, Bool.true_and, Bool.false_and, Bool.or_true, Bool.true_or, Bool.or_false, Bool.false_or, Bool.not_true, Bool.not_false, Bool.false_eq_true]))


theorem fold_rep {F : List PV → Int × Int} {g : List Int} {f : Nat} : ∀ (l : List (List PV)) (ws : List Int) (d c : Nat) (A B : Nat), (∀ x, x ∈ l → ∀ (g : List Int) (f' : Nat) (w : Int) (d' c' : Nat), Rep g f' w x d' c' → c' ≤ 100000 → (F x).1 = d' ∧ (F x).2 = c') →
    RepL (Rep g f) ws l d c → B + c ≤ 100000 → l.foldl (fun a x => (if (F x).1 > a.1 then (F x).1 else a.1, IntKind.i64.wrap (a.2 + (F x).2))) ((A : Int), (B : Int)) = (((max A d : Nat) : Int), ((B + c : Nat) : Int))
  | [], ws, d, c, A, B, _, h, _ => by
    cases ws with
    | nil =>
      obtain ⟨h1, h2⟩ : d = 0 ∧ c = 0 := h
      subst h1 h2
      simp
    | cons w ws => exact h.elim
  | x :: l, ws, d, c, A, B, hF, h, hB => by
    cases ws with
    | nil => exact h.elim
    | cons w ws =>
      obtain ⟨d1, c1, d2, c2, h1, h2, h3, h4⟩ := h
      obtain ⟨e1, e2⟩ := hF x List.mem_cons_self g f w d1 c1 h1 (by omega)
      rw [List.foldl_cons, e1, e2]
      have hw : IntKind.i64.wrap ((B : Int) + (c1 : Int)) = ((B + c1 : Nat) : Int) := by rw [Go.Ab.wrap_small (by omega) (by omega)]; rfl
      have hm : (if (d1 : Int) > (A : Int) then (d1 : Int) else (A : Int)) = ((max A d1 : Nat) : Int) := by
        split <;> omega
      simp only
      rw [hw, hm, fold_rep l ws d2 c2 (max A d1) (B + c1) (fun y hy => hF y (List.mem_cons_of_mem _ hy)) h2 (by omega)]
      rw [h3, h4]
      congr 2
      · omega
      · omega

theorem RepL.deep_le {g : List Int} {f : Nat} : ∀ {ws : List Int} {l : List (List PV)} {d c : Nat}, (∀ w x d c, Rep g f w x d c → d ≤ c) → RepL (Rep g f) ws l d c → d ≤ c
  | [], [], d, c, _, h => by
    obtain ⟨h1, h2⟩ : d = 0 ∧ c = 0 := h
    omega
  | w :: ws, x :: l, d, c, hR, h => by
    obtain ⟨d1, c1, d2, c2, h1, h2, h3, h4⟩ := h
    have := hR _ _ _ _ h1
    have := RepL.deep_le hR h2
    omega

theorem Rep.deep_le {g : List Int} : ∀ {f : Nat} (w : Int) (xs : List PV) (d c : Nat), Rep g f w xs d c → d ≤ c
  | 0, _, _, _, _, h => h.elim
  | f + 1, w, xs, d, c, h => by
    obtain ⟨k, n, text, args, e, h | ⟨a, o, d0, c0, _, _, _, _, _, _, _, h8, h9, h10⟩⟩ := h
    · omega
    · have := h8.deep_le Rep.deep_le
      omega

theorem deep_rep {F : List PV → Int × Int} {g : List Int} {f : Nat} {w : Int} {k n : Int} {text : ByteArray} {args : List (List PV)} {d c : Nat}
    (hF : ∀ x, x ∈ args → ∀ (g : List Int) (f' : Nat) (w : Int) (d' c' : Nat), Rep g f' w x d' c' → c' ≤ 100000 → (F x).1 = d' ∧ (F x).2 = c')
    (hr : Rep g f w [.lit (.int .i64 k), .lit (.int .i64 n), .lit (.string text), .sl args] d c) (hc : c ≤ 100000) : IntKind.i64.wrap ((deepAcc F args).1 + 1) = (d : Int) ∧ (deepAcc F args).2 = (c : Int) := by
  cases f with
  | zero => exact hr.elim
  | succ f =>
    obtain ⟨k', n', text', args', e, h | ⟨a, o, d0, c0, _, _, _, _, _, _, _, h8, h9, h10⟩⟩ := hr
    · cases e
      obtain ⟨h1, _, h2, h3⟩ := h
      have := (of_leaf h1).2
      subst this h2 h3
      exact ⟨by show IntKind.i64.wrap (0 + 1) = ((1 : Nat) : Int); decide, rfl⟩
    · cases e
      have hle := h8.deep_le Rep.deep_le
      have := fold_rep args o.parts d0 c0 0 1 hF h8 (by omega)
      have hacc : deepAcc F args = (((max 0 d0 : Nat) : Int), ((1 + c0 : Nat) : Int)) := this
      rw [hacc]
      simp only
      refine ⟨?_, by omega⟩
      rw [Go.Ab.wrap_small (by omega) (by omega)]
      omega


theorem deepE : ∀ (f : Nat) (xs : List PV), shapeOk Try.prog f 38 xs → ∃ d m : Int, ACallP Try.prog 24 [.agg (xs.map .p)] (.tup [iD d, iD m]) ∧ ∀ (g : List Int) (f' : Nat) (w : Int) (d' c' : Nat), Rep g f' w xs d' c' → c' ≤ 100000 → d = d' ∧ m = c' := by
  intro f
  induction f using Nat.strongRecOn
  rename_i f ih
  intro xs hxs
  obtain ⟨k, n, text, args, g, rfl, hg, hmax, _, _, hargs⟩ := sh38 hxs
  have hch : ∀ x : List PV, ∃ dm : Int × Int, x ∈ args → ACallP Try.prog 24 [.agg (x.map .p)] (.tup [iD dm.1, iD dm.2]) ∧ ∀ (g : List Int) (f' : Nat) (w : Int) (d' c' : Nat), Rep g f' w x d' c' → c' ≤ 100000 → dm.1 = d' ∧ dm.2 = c' := fun x => by
    by_cases hx : x ∈ args
    · obtain ⟨d, m, h⟩ := ih g hg x (hargs x hx).2
      exact ⟨(d, m), fun _ => h⟩
    · exact ⟨(0, 0), fun h => absurd h hx⟩
  obtain ⟨F, hF0⟩ : ∃ F : List PV → Int × Int, ∀ x, x ∈ args → ACallP Try.prog 24 [.agg (x.map .p)] (.tup [iD (F x).1, iD (F x).2]) ∧ ∀ (g : List Int) (f' : Nat) (w : Int) (d' c' : Nat), Rep g f' w x d' c' → c' ≤ 100000 → (F x).1 = d' ∧ (F x).2 = c' := ⟨fun x => Classical.choose (hch x), fun x => Classical.choose_spec (hch x)⟩
  have hF := fun x hx => (hF0 x hx).1
  clear hch ih
  refine ⟨IntKind.i64.wrap ((deepAcc F args).1 + 1), (deepAcc F args).2, ?_, fun g' f' w d' c' hr hc => deep_rep (fun x hx => (hF0 x hx).2) hr hc⟩
  clear hF0
  refine acallp_fn [2, 3] Try.func24 rfl rfl Try.ntmps24 (by simp) fun R hR => ?_
  (refine awp_reg_seq [1] fun K hK => ?_; (repeat' (first | ((first | refine al_r rfl fun K' hK' => ?_ | refine al_d rfl fun K' hK' => ?_ | refine al_t rfl rfl fun K' hK' => ?_); (repeat (first | (simp only [go_sem, simprocAttr]) | refine AS.mk ?_ | refine AAp.grow ?_)); (first | ((first | refine hK' _ _ ?_ | refine ⟨?_, hK' _ _ ?_⟩ | refine ⟨?_, ?_, hK' _ _ ?_⟩ | refine ⟨?_, ?_, ?_, hK' _ _ ?_⟩) <;> clear hK' K' <;> (first | (show alist _ _ _ _ _ _; skip) | (intro s hs; cases hs; done) | assumption | (simp; done) | omega | (simp; omega) | skip)))) | refine al_e rfl rfl ?_ | refine al_u rfl rfl ?_ | ((fail_if_success (refine al_t rfl rfl fun K' hK' => ?_)); refine al_s _ rfl rfl rfl (fun hb => ?_) (fun hb => ?_)))); all_goals (refine al_nil ?_; (simp only [go_sem, simprocAttr]); refine hK _ ?_; clear hK K))
  (refine awp_frz [1] [] (by decide) (by simp) ?_; simp only [go_sem, simprocAttr])
  (refine awp_reg_seq [1, 4, 5] fun K hK => ?_; (repeat' (first | ((first | refine al_r rfl fun K' hK' => ?_ | refine al_d rfl fun K' hK' => ?_ | refine al_t rfl rfl fun K' hK' => ?_); (repeat (first | (simp only [go_sem, simprocAttr]) | refine AS.mk ?_ | refine AAp.grow ?_)); (first | ((first | refine hK' _ _ ?_ | refine ⟨?_, hK' _ _ ?_⟩ | refine ⟨?_, ?_, hK' _ _ ?_⟩ | refine ⟨?_, ?_, ?_, hK' _ _ ?_⟩) <;> clear hK' K' <;> (first | (show alist _ _ _ _ _ _; skip) | (intro s hs; cases hs; done) | assumption | (simp; done) | omega | (simp; omega) | skip)))) | refine al_e rfl rfl ?_ | refine al_u rfl rfl ?_ | ((fail_if_success (refine al_t rfl rfl fun K' hK' => ?_)); refine al_s _ rfl rfl rfl (fun hb => ?_) (fun hb => ?_)))); all_goals (refine al_nil ?_; (simp only [go_sem, simprocAttr]); refine hK _ ?_; clear hK K))
  refine awp_seq_k fun K hK => ?_
  (refine awp_reg_seq [4, 5, 11, 12, 13] fun K hK => ?_; (repeat' (first | ((first | refine al_r rfl fun K' hK' => ?_ | refine al_d rfl fun K' hK' => ?_ | refine al_t rfl rfl fun K' hK' => ?_); (repeat (first | (simp only [go_sem, simprocAttr]) | refine AS.mk ?_ | refine AAp.grow ?_)); (first | ((first | refine hK' _ _ ?_ | refine ⟨?_, hK' _ _ ?_⟩ | refine ⟨?_, ?_, hK' _ _ ?_⟩ | refine ⟨?_, ?_, ?_, hK' _ _ ?_⟩) <;> clear hK' K' <;> (first | (show alist _ _ _ _ _ _; skip) | (intro s hs; cases hs; done) | assumption | (simp; done) | omega | (simp; omega) | skip)))) | refine al_e rfl rfl ?_ | refine al_u rfl rfl ?_ | ((fail_if_success (refine al_t rfl rfl fun K' hK' => ?_)); refine al_s _ rfl rfl rfl (fun hb => ?_) (fun hb => ?_)))); all_goals (refine al_nil ?_; (simp only [go_sem, simprocAttr]); refine hK _ ?_; clear hK K))
  refine awp_block ?_
  -- loop 0 head [4, 5, 11, 12, 13]
  refine awp_loop (fun m s => ∃ i : Nat, i ≤ args.length ∧ m = args.length - i ∧ s = ⟨ofL [(4, iD (deepAcc F (args.take i)).1), (5, iD (deepAcc F (args.take i)).2), (11, .p (.sl args)), (12, iD args.length), (13, iD i)], [], 0⟩) ⟨_, 0, Nat.zero_le _, rfl, rfl⟩ ?_
  rintro m s ⟨i, hi, rfl, rfl⟩
  (refine awp_reg_seq [4, 5, 11, 12, 13, 14] fun K hK => ?_; (repeat' (first | ((first | refine al_r rfl fun K' hK' => ?_ | refine al_d rfl fun K' hK' => ?_ | refine al_t rfl rfl fun K' hK' => ?_); (repeat (first | (simp only [go_sem, simprocAttr]) | refine AS.mk ?_ | refine AAp.grow ?_)); (first | ((first | refine hK' _ _ ?_ | refine ⟨?_, hK' _ _ ?_⟩ | refine ⟨?_, ?_, hK' _ _ ?_⟩ | refine ⟨?_, ?_, ?_, hK' _ _ ?_⟩) <;> clear hK' K' <;> (first | (show alist _ _ _ _ _ _; skip) | (intro s hs; cases hs; done) | assumption | (simp; done) | omega | (simp; omega) | skip)))) | refine al_e rfl rfl ?_ | refine al_u rfl rfl ?_ | ((fail_if_success (refine al_t rfl rfl fun K' hK' => ?_)); refine al_s _ rfl rfl rfl (fun hb => ?_) (fun hb => ?_)))); all_goals (refine al_nil ?_; (simp only [go_sem, simprocAttr]); refine hK _ ?_; clear hK K))
  refine awp_seq_k fun K hK => ?_
  refine awp_if (decide ((i : Int) < args.length)) rfl (fun hc => ?_) (fun hc => ?_)
  · refine awp_skip ?_
    refine hK _ ?_; clear hK K
    refine awp_seq_k fun K hK => ?_
    refine awp_block ?_
    have hi2 : i < args.length := by simpa using hc
    obtain ⟨x, hget⟩ := get_of_lt hi2
    have hnn : (0 : Int) ≤ (i : Int) := Int.natCast_nonneg i
    have hnx : IntKind.i64.wrap ((i : Int) + 1) = ((i + 1 : Nat) : Int) := wrap_next hi2 hmax
    obtain ⟨hx4, hxs⟩ := hargs x (List.mem_of_getElem? hget)
    have hcall := hF x (List.mem_of_getElem? hget)
    have hacc := deepAcc_succ F hget
    obtain ⟨y0, y1, y2, y3, _, rfl, _, _⟩ := sh38 hxs
    generalize F _ = dm at hcall hacc
    generalize deepAcc F (args.take i) = A at *
    simp only [List.map_cons, List.map_nil] at hcall

    (refine awp_reg_seq [4, 5, 7, 11, 12, 13] fun K hK => ?_; (repeat' (first | ((first | refine al_r rfl fun K' hK' => ?_ | refine al_d rfl fun K' hK' => ?_ | refine al_t rfl rfl fun K' hK' => ?_); (repeat (first | (simp only [go_sem, simprocAttr, hget, hnn, hi2, hnx, Int.toNat_natCast]) | refine AS.mk ?_ | refine AAp.grow ?_)); (first | ((first | refine hK' _ _ ?_ | refine ⟨?_, hK' _ _ ?_⟩ | refine ⟨?_, ?_, hK' _ _ ?_⟩ | refine ⟨?_, ?_, ?_, hK' _ _ ?_⟩) <;> clear hK' K' <;> (first | (show alist _ _ _ _ _ _; skip) | (intro s hs; cases hs; done) | assumption | (simp; done) | omega | (simp; omega) | skip)))) | refine al_e rfl rfl ?_ | refine al_u rfl rfl ?_ | ((fail_if_success (refine al_t rfl rfl fun K' hK' => ?_)); refine al_s _ rfl rfl rfl (fun hb => ?_) (fun hb => ?_)))); all_goals (refine al_nil ?_; (simp only [go_sem, simprocAttr, hget, hnn, hi2, hnx, Int.toNat_natCast]); refine hK _ ?_; clear hK K))
    (refine awp_frz [4, 5, 7, 11, 12, 13] [] (by decide) (by simp) ?_; simp only [go_sem, simprocAttr, hget, hnn, hi2, hnx, Int.toNat_natCast])
    (refine awp_reg_seq [4, 5, 8, 9, 11, 12, 13] fun K hK => ?_; (repeat' (first | ((first | refine al_r rfl fun K' hK' => ?_ | refine al_d rfl fun K' hK' => ?_ | refine al_t rfl rfl fun K' hK' => ?_); (repeat (first | (simp only [go_sem, simprocAttr, hget, hnn, hi2, hnx, Int.toNat_natCast]) | refine AS.mk ?_ | refine AAp.grow ?_)); (first | ((first | refine hK' _ _ ?_ | refine ⟨?_, hK' _ _ ?_⟩ | refine ⟨?_, ?_, hK' _ _ ?_⟩ | refine ⟨?_, ?_, ?_, hK' _ _ ?_⟩) <;> clear hK' K' <;> (first | (show alist _ _ _ _ _ _; skip) | (intro s hs; cases hs; done) | assumption | (simp; done) | omega | (simp; omega) | skip)) | ((show AC _ _ (D.fn 24 _) _ _); refine acall_p (f := 24) (e := rfl) (hr := rfl) (k := hK' _ _ ?_) (hc := Try.call24) (h := hcall); clear hK' K'))) | refine al_e rfl rfl ?_ | refine al_u rfl rfl ?_ | ((fail_if_success (refine al_t rfl rfl fun K' hK' => ?_)); refine al_s _ rfl rfl rfl (fun hb => ?_) (fun hb => ?_)))); all_goals (refine al_nil ?_; (simp only [go_sem, simprocAttr, hget, hnn, hi2, hnx, Int.toNat_natCast]); refine hK _ ?_; clear hK K))
    (refine awp_reg_end [4, 5, 11, 12, 13] fun K hK => ?_; (repeat' (first | ((first | refine al_r rfl fun K' hK' => ?_ | refine al_d rfl fun K' hK' => ?_ | refine al_t rfl rfl fun K' hK' => ?_); (repeat (first | (simp only [go_sem, simprocAttr, hget, hnn, hi2, hnx, Int.toNat_natCast]) | refine AS.mk ?_ | refine AAp.grow ?_)); (first | ((first | refine hK' _ _ ?_ | refine ⟨?_, hK' _ _ ?_⟩ | refine ⟨?_, ?_, hK' _ _ ?_⟩ | refine ⟨?_, ?_, ?_, hK' _ _ ?_⟩) <;> clear hK' K' <;> (first | (show alist _ _ _ _ _ _; skip) | (intro s hs; cases hs; done) | assumption | (simp; done) | omega | (simp; omega) | skip)))) | refine al_e rfl rfl ?_ | refine al_u rfl rfl ?_ | ((fail_if_success (refine al_t rfl rfl fun K' hK' => ?_)); refine al_s _ rfl rfl rfl (fun hb => ?_) (fun hb => ?_)))); all_goals (refine al_nil ?_; (simp only [go_sem, simprocAttr, hget, hnn, hi2, hnx, Int.toNat_natCast]); refine hK _ ?_; clear hK K))
    refine hK _ ?_; clear hK K
    (refine awp_reg_end [4, 5, 11, 12, 13] fun K hK => ?_; (repeat' (first | ((first | refine al_r rfl fun K' hK' => ?_ | refine al_d rfl fun K' hK' => ?_ | refine al_t rfl rfl fun K' hK' => ?_); (repeat (first | (simp only [go_sem, simprocAttr, hget, hnn, hi2, hnx, Int.toNat_natCast]) | refine AS.mk ?_ | refine AAp.grow ?_)); (first | ((first | refine hK' _ _ ?_ | refine ⟨?_, hK' _ _ ?_⟩ | refine ⟨?_, ?_, hK' _ _ ?_⟩ | refine ⟨?_, ?_, ?_, hK' _ _ ?_⟩) <;> clear hK' K' <;> (first | (show alist _ _ _ _ _ _; skip) | (intro s hs; cases hs; done) | assumption | (simp; done) | omega | (simp; omega) | skip)))) | refine al_e rfl rfl ?_ | refine al_u rfl rfl ?_ | ((fail_if_success (refine al_t rfl rfl fun K' hK' => ?_)); refine al_s _ rfl rfl rfl (fun hb => ?_) (fun hb => ?_)))); all_goals (refine al_nil ?_; (simp only [go_sem, simprocAttr, hget, hnn, hi2, hnx, Int.toNat_natCast]); refine hK _ ?_; clear hK K))
    refine ⟨_, ?_, i + 1, hi2, rfl, ?_⟩
    · omega
    · rw [hacc]

  · have hie : i = args.length := by simp at hc; omega
    subst hie
    rw [List.take_length]
    refine awp_exit ?_
    clear hK
    refine hK _ ?_; clear hK K
    (refine awp_reg_seq [2, 3] fun K hK => ?_; (repeat' (first | ((first | refine al_r rfl fun K' hK' => ?_ | refine al_d rfl fun K' hK' => ?_ | refine al_t rfl rfl fun K' hK' => ?_); (repeat (first | (simp only [go_sem, simprocAttr]) | refine AS.mk ?_ | refine AAp.grow ?_)); (first | ((first | refine hK' _ _ ?_ | refine ⟨?_, hK' _ _ ?_⟩ | refine ⟨?_, ?_, hK' _ _ ?_⟩ | refine ⟨?_, ?_, ?_, hK' _ _ ?_⟩) <;> clear hK' K' <;> (first | (show alist _ _ _ _ _ _; skip) | (intro s hs; cases hs; done) | assumption | (simp; done) | omega | (simp; omega) | skip)))) | refine al_e rfl rfl ?_ | refine al_u rfl rfl ?_ | ((fail_if_success (refine al_t rfl rfl fun K' hK' => ?_)); refine al_s _ rfl rfl rfl (fun hb => ?_) (fun hb => ?_)))); all_goals (refine al_nil ?_; (simp only [go_sem, simprocAttr]); refine hK _ ?_; clear hK K))
    all_goals (refine awp_ret ?_; (first | refine hR _ _ (.inl rfl) rfl ?_ | refine hR _ _ (.inl rfl) rfl ?_ ?_); (first | (simp only [go_sem, simprocAttr, *, Bool.and_true, Bool.and_false, Bool.true_and, Bool.false_and, Bool.or_true, Bool.true_or, Bool.or_false, Bool.false_or, Bool.not_true, Bool.not_false, Bool.false_eq_true]; done) | contradiction | (simp_all; done) | simp only [go_sem, simprocAttr, *, Bool.and_true, Bool.and_false, Bool.true_and, Bool.false_and, Bool.or_true, Bool.true_or, Bool.or_false, Bool.false_or, Bool.not_true, Bool.not_false, Bool.false_eq_true]))


theorem putS_len {h : List Int} {o : Obj} (he : (putS h o).2.2 = 0) : (putS h o).1.length ≤ 4000 := by
  have hel := enc_len o
  unfold putS at he ⊢
  split at he
  · cases he
  · rename_i h1
    rw [if_neg h1]
    split at he
    · cases he
    · rename_i h2
      rw [if_neg h2]
      simp only [decide_eq_true_eq] at h2
      simp only [List.length_append, hel]
      omega

theorem buildN_len {F : List Int → List PV → List Int × Int × Int} {h : List Int} {k n : Int} {text : ByteArray} {args : List (List PV)} (hh : h.length ≤ BIG) (he : (buildN F h k n text args).2.2 = 0) : (buildN F h k n text args).1.length ≤ BIG := by
  unfold buildN at he ⊢
  split
  · exact hh
  split
  · simp
  split
  · simp
  split
  · simp
  rename_i h1 h2 h3 h4
  rw [if_neg h1, if_neg h2, if_neg h3, if_neg h4] at he
  split
  · simp
  · rename_i h5
    have := putS_len (by simpa using h5)
    simp only [BIG]
    exact Nat.le_trans this (by decide)

theorem buildR : ∀ (f : Nat) (xs : List PV), shapeOk Try.prog f 38 xs → ∃ B : List Int → List Int × Int × Int, (∀ h : List Int, h.length ≤ BIG → ACallP Try.prog 23 [words h, .agg (xs.map .p)] (.tup [words (B h).1, wD (B h).2.1, iD (B h).2.2]) ∧ ((B h).2.2 = 0 → (B h).1.length ≤ BIG)) ∧ ∀ h, HeapOk h → Made h (B h) xs := by
  intro f
  induction f using Nat.strongRecOn
  rename_i f ih
  intro xs hxs
  obtain ⟨k, n, text, args, g, rfl, hg, hmax, hal, hn, hargs⟩ := sh38 hxs
  have hch : ∀ x : List PV, ∃ B : List Int → List Int × Int × Int, x ∈ args → (∀ h : List Int, h.length ≤ BIG → ACallP Try.prog 23 [words h, .agg (x.map .p)] (.tup [words (B h).1, wD (B h).2.1, iD (B h).2.2]) ∧ ((B h).2.2 = 0 → (B h).1.length ≤ BIG)) ∧ ∀ h, HeapOk h → Made h (B h) x := fun x => by
    by_cases hx : x ∈ args
    · obtain ⟨B, hB⟩ := ih g hg x (hargs x hx).2
      exact ⟨B, fun _ => hB⟩
    · exact ⟨fun _ => ([], 0, 0), fun h => absurd h hx⟩
  obtain ⟨F, hF⟩ : ∃ F : List PV → List Int → List Int × Int × Int, ∀ x, x ∈ args → (∀ h : List Int, h.length ≤ BIG → ACallP Try.prog 23 [words h, .agg (x.map .p)] (.tup [words (F x h).1, wD (F x h).2.1, iD (F x h).2.2]) ∧ ((F x h).2.2 = 0 → (F x h).1.length ≤ BIG)) ∧ ∀ h, HeapOk h → Made h (F x h) x :=
    ⟨fun x => Classical.choose (hch x), fun x => Classical.choose_spec (hch x)⟩
  refine ⟨fun h => buildN (fun g x => F x g) h k n text args, fun h hh => ⟨?_, buildN_len hh⟩, fun h hh => buildN_made hh hn fun x hx g hg => (hF x hx).2 g hg⟩
  exact buildLB (fun g x => F x g) h k n text args hh hn (fun x hx => (hargs x hx).1) hal (fun x hx g hg4 => (hF x hx).1 g hg4) (fun x hx => by
    obtain ⟨k, n, t, a, _, e, _⟩ := sh38 (hargs x hx).2
    exact ⟨k, n, t, a, e⟩)

theorem Rep.form {g : List Int} {f : Nat} {w : Int} {xs : List PV} {d c : Nat} (h : Rep g f w xs d c) : ∃ k n t a, xs = [.lit (.int .i64 k), .lit (.int .i64 n), .lit (.string t), .sl a] := by
  cases f with
  | zero => exact h.elim
  | succ f =>
    obtain ⟨k, n, text, args, e, _⟩ := h
    exact ⟨k, n, text, args, e⟩

theorem readR {g : List Int} (hg : HeapOk g) : ∀ (f : Nat) (w : Int) (xs : List PV) (d c : Nat), Rep g f w xs d c → ∀ nest left : Int, (d : Int) ≤ nest → nest ≤ 1000 → (c : Int) ≤ left → left ≤ 100000 →
    ACalls Try.prog 58 [words g, wD w, iD nest, .ptr 0 0 0] [.box [iD left]] (fun r obs' => r = .tup [.agg (xs.map .p), iD 0] ∧ obs' = [.box [iD (left - c)]])
  | 0, _, _, _, _, h, _, _, _, _, _, _ => h.elim
  | f + 1, w, xs, d, c, h, nest, left, hn, hn2, hl, hl2 => by
    have h1 := h.one
    obtain ⟨k, n, text, args, rfl, ⟨h2, h3, h4, h5⟩ | ⟨a, o, d0, c0, r1, r2, r3, r4, r5, r6, r7, r8, r9, r10⟩⟩ := h
    · obtain ⟨rfl, rfl⟩ := of_leaf h2
      obtain ⟨v1, v2, v3⟩ := of_value h2
      rw [← h3] at v1 v2 v3
      have hva := valueW w
      rw [v1, v2, v3] at hva
      subst h5
      exact readLeaf g w k n nest left hva (by omega) hl2 (by omega)
    · subst r9 r10 r5 r6 r7
      have hva := valueW w
      rw [r2, word4_value r1] at hva
      have hrd := readW w
      rw [r2, word4_read r1] at hrd
      have hat := at_ g a (big_max hg.1) hg.2
      rw [r3] at hat
      obtain ⟨kk, hk, hk1, hk5⟩ := right_kind r4
      have hki := kinds o.kind (by omega) (by omega)
      have hpl := r8.len
      have hp4 := (right_small r4).2
      rw [r2]
      exact readObj g (Rep g f) _ a o args _ nest left d0 c0 hva hrd hat hki r8 (by omega) (fun w x d c hR => readR hg f w x d c hR) (fun w x d c hR => hR.form) (by omega) hn2 (by omega) hl2


theorem readV (g : List Int) (w k n : Int) (text : ByteArray) (args : List (List PV)) (lf : Int)
    (hre : ACalls Try.prog 58 [words g, wD w, iD 40, .ptr 0 0 0] [.box [iD 400]] (fun r obs' => r = .tup [valD k n text args, iD 0] ∧ obs' = [.box [iD lf]])) : ACallP Try.prog 25 [words g, wD w] (.tup [valD k n text args, iD 0]) := by
  refine acallp_fnv [.cell 4 38, .tmp 5] Try.func25 rfl rfl Try.ntmps25 (by simp) fun R hR => ?_
  (refine awp_reg_seq [0, 1, 4] fun K hK => ?_; (repeat' (first | ((first | refine al_r rfl fun K' hK' => ?_ | refine al_d rfl fun K' hK' => ?_ | refine al_t rfl rfl fun K' hK' => ?_); (repeat (first | (simp only [go_sem, simprocAttr]) | refine AS.mk ?_ | refine AAp.grow ?_)); (first | ((first | refine hK' _ _ ?_ | refine ⟨?_, hK' _ _ ?_⟩ | refine ⟨?_, ?_, hK' _ _ ?_⟩ | refine ⟨?_, ?_, ?_, hK' _ _ ?_⟩) <;> clear hK' K' <;> (first | (show alist _ _ _ _ _ _; skip) | (intro s hs; cases hs; done) | assumption | (simp; done) | omega | (simp; omega) | skip)))) | refine al_e rfl rfl ?_ | refine al_u rfl rfl ?_ | ((fail_if_success (refine al_t rfl rfl fun K' hK' => ?_)); refine al_s _ rfl rfl rfl (fun hb => ?_) (fun hb => ?_)))); all_goals (refine al_nil ?_; (simp only [go_sem, simprocAttr]); refine hK _ ?_; clear hK K))
  (refine awp_reg_seq [0, 1, 4, 6] fun K hK => ?_; (repeat' (first | ((first | refine al_r rfl fun K' hK' => ?_ | refine al_d rfl fun K' hK' => ?_ | refine al_t rfl rfl fun K' hK' => ?_); (repeat (first | (simp only [go_sem, simprocAttr]) | refine AS.mk ?_ | refine AAp.grow ?_)); (first | ((first | refine hK' _ _ ?_ | refine ⟨?_, hK' _ _ ?_⟩ | refine ⟨?_, ?_, hK' _ _ ?_⟩ | refine ⟨?_, ?_, ?_, hK' _ _ ?_⟩) <;> clear hK' K' <;> (first | (show alist _ _ _ _ _ _; skip) | (intro s hs; cases hs; done) | assumption | (simp; done) | omega | (simp; omega) | skip)))) | refine al_e rfl rfl ?_ | refine al_u rfl rfl ?_ | ((fail_if_success (refine al_t rfl rfl fun K' hK' => ?_)); refine al_s _ rfl rfl rfl (fun hb => ?_) (fun hb => ?_)))); all_goals (refine al_nil ?_; (simp only [go_sem, simprocAttr]); refine hK _ ?_; clear hK K))
  (refine awp_reg_seq [4, 5] fun K hK => ?_; (repeat' (first | ((first | refine al_r rfl fun K' hK' => ?_ | refine al_d rfl fun K' hK' => ?_ | refine al_t rfl rfl fun K' hK' => ?_); (repeat (first | (simp only [go_sem, simprocAttr]) | refine AS.mk ?_ | refine AAp.grow ?_)); (first | ((first | refine hK' _ _ ?_ | refine ⟨?_, hK' _ _ ?_⟩ | refine ⟨?_, ?_, hK' _ _ ?_⟩ | refine ⟨?_, ?_, ?_, hK' _ _ ?_⟩) <;> clear hK' K' <;> (first | (show alist _ _ _ _ _ _; skip) | (intro s hs; cases hs; done) | assumption | (simp; done) | omega | (simp; omega) | skip)) | ((show AC _ _ (D.fn 58 _) _ _); refine acall_m (f := 58) [1] Try.call58 hre rfl rfl (by decide) (by simp) ?_; rintro r obs' ⟨rfl, rfl⟩; refine ⟨by simp, ?_⟩; (simp only [go_sem, simprocAttr]); refine hK' _ _ ?_; clear hK' K'))) | refine al_e rfl rfl ?_ | refine al_u rfl rfl ?_ | ((fail_if_success (refine al_t rfl rfl fun K' hK' => ?_)); refine al_s _ rfl rfl rfl (fun hb => ?_) (fun hb => ?_)))); all_goals (refine al_nil ?_; (simp only [go_sem, simprocAttr]); refine hK _ ?_; clear hK K))
  refine awp_ret ?_; refine hR _ _ (.inl rfl) rfl ?_
  simp only [go_sem, simprocAttr]
end Go.Proofs.Ytagphggcdmjlpaa.P
/- What the function of the statement HeapRight answers. -/
namespace Go.Proofs.Ytagphggcdmjlpaa.P
open Go.Ab Go.Proofs.Ytagphggcdmjlpaa.T


theorem rightBad (h : List Int) (k n a dp mn : Int) (text : ByteArray) (args : List (List PV)) (hde : ACallP Try.prog 24 [valD k n text args] (.tup [iD dp, iD mn])) (hcond : (decide (dp > 40) || decide (mn > 400)) = true) :
    ACallP Try.prog 5 [words h, valD k n text args, iD a] (bD true) := by
  obtain ⟨A, hA⟩ : ∃ A, decide (dp > 40) = A := ⟨_, rfl⟩
  obtain ⟨B, hB⟩ : ∃ B, decide (mn > 400) = B := ⟨_, rfl⟩
  rw [hA, hB] at hcond
  refine acallp_fn [6] Try.func5 rfl rfl Try.ntmps5 (by simp) fun R hR => ?_
  (refine awp_reg_seq [0, 2, 4] fun K hK => ?_; (repeat' (first | ((first | refine al_r rfl fun K' hK' => ?_ | refine al_d rfl fun K' hK' => ?_ | refine al_t rfl rfl fun K' hK' => ?_); (repeat (first | (simp only [go_sem, simprocAttr]) | refine AS.mk ?_ | refine AAp.grow ?_)); (first | ((first | refine hK' _ _ ?_ | refine ⟨?_, hK' _ _ ?_⟩ | refine ⟨?_, ?_, hK' _ _ ?_⟩ | refine ⟨?_, ?_, ?_, hK' _ _ ?_⟩) <;> clear hK' K' <;> (first | (show alist _ _ _ _ _ _; skip) | (intro s hs; cases hs; done) | assumption | (simp; done) | omega | (simp; omega) | skip)))) | refine al_e rfl rfl ?_ | refine al_u rfl rfl ?_ | ((fail_if_success (refine al_t rfl rfl fun K' hK' => ?_)); refine al_s _ rfl rfl rfl (fun hb => ?_) (fun hb => ?_)))); all_goals (refine al_nil ?_; (simp only [go_sem, simprocAttr]); refine hK _ ?_; clear hK K))
  (refine awp_frz [0, 2, 4] [] (by decide) (by simp) ?_; simp only [go_sem, simprocAttr])
  (refine awp_reg_seq [0, 2, 4, 7, 8] fun K hK => ?_; (repeat' (first | ((first | refine al_r rfl fun K' hK' => ?_ | refine al_d rfl fun K' hK' => ?_ | refine al_t rfl rfl fun K' hK' => ?_); (repeat (first | (simp only [go_sem, simprocAttr]) | refine AS.mk ?_ | refine AAp.grow ?_)); (first | ((first | refine hK' _ _ ?_ | refine ⟨?_, hK' _ _ ?_⟩ | refine ⟨?_, ?_, hK' _ _ ?_⟩ | refine ⟨?_, ?_, ?_, hK' _ _ ?_⟩) <;> clear hK' K' <;> (first | (show alist _ _ _ _ _ _; skip) | (intro s hs; cases hs; done) | assumption | (simp; done) | omega | (simp; omega) | skip)) | ((show AC _ _ (D.fn 24 _) _ _); refine acall_p (f := 24) (e := rfl) (hr := rfl) (k := hK' _ _ ?_) (hc := Try.call24) (h := hde); clear hK' K'))) | refine al_e rfl rfl ?_ | refine al_u rfl rfl ?_ | ((fail_if_success (refine al_t rfl rfl fun K' hK' => ?_)); refine al_s _ rfl rfl rfl (fun hb => ?_) (fun hb => ?_)))); all_goals (refine al_nil ?_; (simp only [go_sem, simprocAttr]); refine hK _ ?_; clear hK K))
  refine awp_seq_k fun K hK => ?_

  refine awp_reg_tov [0, 2, 4, 32] [(32, bD true)] (h := ?_) (k := ?_)
  · cases A <;> cases B <;> first | (cases hcond; done) | skip
    all_goals ((repeat' (first | ((first | refine al_r rfl fun K' hK' => ?_ | refine al_d rfl fun K' hK' => ?_ | refine al_t rfl rfl fun K' hK' => ?_); (repeat (first | (simp only [go_sem, simprocAttr, hA, hB]) | refine AS.mk ?_ | refine AAp.grow ?_)); (first | ((first | refine hK' _ _ ?_ | refine ⟨?_, hK' _ _ ?_⟩ | refine ⟨?_, ?_, hK' _ _ ?_⟩ | refine ⟨?_, ?_, ?_, hK' _ _ ?_⟩) <;> clear hK' K' <;> (first | (show alist _ _ _ _ _ _; skip) | (intro s hs; cases hs; done) | assumption | (simp; done) | omega | (simp; omega) | skip)) | ((show AC _ _ (D.fn 16 _) _ _); refine acall_p (f := 16) (e := rfl) (hr := rfl) (k := hK' _ _ ?_) (hc := Try.call16) (h := heaps); clear hK' K'))) | refine al_e rfl rfl ?_ | refine al_u rfl rfl ?_ | ((fail_if_success (refine al_t rfl rfl fun K' hK' => ?_)); refine al_s _ rfl rfl rfl (fun hb => ?_) (fun hb => ?_)))); all_goals (refine al_nil ?_; (first | (simp only [go_sem, simprocAttr, hA, hB, *, Bool.and_true, Bool.and_false, Bool.true_and, Bool.false_and, Bool.or_true, Bool.true_or, Bool.or_false, Bool.false_or, Bool.not_true, Bool.not_false, Bool.false_eq_true]; done) | contradiction | (simp_all; done) | simp only [go_sem, simprocAttr, hA, hB, *, Bool.and_true, Bool.and_false, Bool.true_and, Bool.false_and, Bool.or_true, Bool.true_or, Bool.or_false, Bool.false_or, Bool.not_true, Bool.not_false, Bool.false_eq_true])))
  (intro K hK; (simp only [go_sem, simprocAttr, hA, hB]); refine hK _ ?_; clear hK K)
  refine awp_if (_) rfl (fun hc => ?_) (fun hc => ?_)
  · (refine awp_reg_seq [6] fun K hK => ?_; (repeat' (first | ((first | refine al_r rfl fun K' hK' => ?_ | refine al_d rfl fun K' hK' => ?_ | refine al_t rfl rfl fun K' hK' => ?_); (repeat (first | (simp only [go_sem, simprocAttr, hA, hB]) | refine AS.mk ?_ | refine AAp.grow ?_)); (first | ((first | refine hK' _ _ ?_ | refine ⟨?_, hK' _ _ ?_⟩ | refine ⟨?_, ?_, hK' _ _ ?_⟩ | refine ⟨?_, ?_, ?_, hK' _ _ ?_⟩) <;> clear hK' K' <;> (first | (show alist _ _ _ _ _ _; skip) | (intro s hs; cases hs; done) | assumption | (simp; done) | omega | (simp; omega) | skip)) | ((show AC _ _ (D.fn 16 _) _ _); refine acall_p (f := 16) (e := rfl) (hr := rfl) (k := hK' _ _ ?_) (hc := Try.call16) (h := heaps); clear hK' K'))) | refine al_e rfl rfl ?_ | refine al_u rfl rfl ?_ | ((fail_if_success (refine al_t rfl rfl fun K' hK' => ?_)); refine al_s _ rfl rfl rfl (fun hb => ?_) (fun hb => ?_)))); all_goals (refine al_nil ?_; (simp only [go_sem, simprocAttr, hA, hB]); refine hK _ ?_; clear hK K))
    all_goals (refine awp_ret ?_; (first | refine hR _ _ (.inl rfl) rfl ?_ | refine hR _ _ (.inl rfl) rfl ?_ ?_); (first | (simp only [go_sem, simprocAttr, hA, hB, *, Bool.and_true, Bool.and_false, Bool.true_and, Bool.false_and, Bool.or_true, Bool.true_or, Bool.or_false, Bool.false_or, Bool.not_true, Bool.not_false, Bool.false_eq_true]; done) | contradiction | (simp_all; done) | simp only [go_sem, simprocAttr, hA, hB, *, Bool.and_true, Bool.and_false, Bool.true_and, Bool.false_and, Bool.or_true, Bool.true_or, Bool.or_false, Bool.false_or, Bool.not_true, Bool.not_false, Bool.false_eq_true]))
  · cases hc


theorem rightErr (h : List Int) (k n a dp mn e : Int) (text : ByteArray) (args : List (List PV)) (hde : ACallP Try.prog 24 [valD k n text args] (.tup [iD dp, iD mn])) (hA : decide (dp > 40) = false) (hB : decide (mn > 400) = false)
    (he : (e != 0) = true) (hbu : ACallP Try.prog 23 [words h, valD k n text args] (.tup [words [], wD 0, iD e])) : ACallP Try.prog 5 [words h, valD k n text args, iD a] (bD true) := by
  refine acallp_fn [6] Try.func5 rfl rfl Try.ntmps5 (by simp) fun R hR => ?_
  (refine awp_reg_seq [0, 2, 4] fun K hK => ?_; (repeat' (first | ((first | refine al_r rfl fun K' hK' => ?_ | refine al_d rfl fun K' hK' => ?_ | refine al_t rfl rfl fun K' hK' => ?_); (repeat (first | (simp only [go_sem, simprocAttr, beq_self_eq_true]) | refine AS.mk ?_ | refine AAp.grow ?_)); (first | ((first | refine hK' _ _ ?_ | refine ⟨?_, hK' _ _ ?_⟩ | refine ⟨?_, ?_, hK' _ _ ?_⟩ | refine ⟨?_, ?_, ?_, hK' _ _ ?_⟩) <;> clear hK' K' <;> (first | (show alist _ _ _ _ _ _; skip) | (intro s hs; cases hs; done) | assumption | (simp; done) | omega | (simp; omega) | skip)))) | refine al_e rfl rfl ?_ | refine al_u rfl rfl ?_ | ((fail_if_success (refine al_t rfl rfl fun K' hK' => ?_)); refine al_s _ rfl rfl rfl (fun hb => ?_) (fun hb => ?_)))); all_goals (refine al_nil ?_; (simp only [go_sem, simprocAttr, beq_self_eq_true]); refine hK _ ?_; clear hK K))
  (refine awp_frz [0, 2, 4] [] (by decide) (by simp) ?_; simp only [go_sem, simprocAttr, beq_self_eq_true])
  (refine awp_reg_seq [0, 2, 4, 7, 8] fun K hK => ?_; (repeat' (first | ((first | refine al_r rfl fun K' hK' => ?_ | refine al_d rfl fun K' hK' => ?_ | refine al_t rfl rfl fun K' hK' => ?_); (repeat (first | (simp only [go_sem, simprocAttr, beq_self_eq_true]) | refine AS.mk ?_ | refine AAp.grow ?_)); (first | ((first | refine hK' _ _ ?_ | refine ⟨?_, hK' _ _ ?_⟩ | refine ⟨?_, ?_, hK' _ _ ?_⟩ | refine ⟨?_, ?_, ?_, hK' _ _ ?_⟩) <;> clear hK' K' <;> (first | (show alist _ _ _ _ _ _; skip) | (intro s hs; cases hs; done) | assumption | (simp; done) | omega | (simp; omega) | skip)) | ((show AC _ _ (D.fn 24 _) _ _); refine acall_p (f := 24) (e := rfl) (hr := rfl) (k := hK' _ _ ?_) (hc := Try.call24) (h := hde); clear hK' K') | ((show AC _ _ (D.fn 24 _) _ _); refine acall_p (f := 24) (e := rfl) (hr := rfl) (k := hK' _ _ ?_) (hc := Try.call24) (h := hde); clear hK' K'))) | refine al_e rfl rfl ?_ | refine al_u rfl rfl ?_ | ((fail_if_success (refine al_t rfl rfl fun K' hK' => ?_)); refine al_s _ rfl rfl rfl (fun hb => ?_) (fun hb => ?_)))); all_goals (refine al_nil ?_; (simp only [go_sem, simprocAttr, beq_self_eq_true]); refine hK _ ?_; clear hK K))
  refine awp_seq_k fun K hK => ?_

  (refine awp_reg_tov [0, 2, 4, 32] [(32, bD false)] (h := ?_) (k := ?_); · ((repeat' (first | ((first | refine al_r rfl fun K' hK' => ?_ | refine al_d rfl fun K' hK' => ?_ | refine al_t rfl rfl fun K' hK' => ?_); (repeat (first | (simp only [go_sem, simprocAttr, hA, hB]) | refine AS.mk ?_ | refine AAp.grow ?_)); (first | ((first | refine hK' _ _ ?_ | refine ⟨?_, hK' _ _ ?_⟩ | refine ⟨?_, ?_, hK' _ _ ?_⟩ | refine ⟨?_, ?_, ?_, hK' _ _ ?_⟩) <;> clear hK' K' <;> (first | (show alist _ _ _ _ _ _; skip) | (intro s hs; cases hs; done) | assumption | (simp; done) | omega | (simp; omega) | skip)) | ((show AC _ _ (D.fn 16 _) _ _); refine acall_p (f := 16) (e := rfl) (hr := rfl) (k := hK' _ _ ?_) (hc := Try.call16) (h := heaps); clear hK' K') | ((show AC _ _ (D.fn 16 _) _ _); refine acall_p (f := 16) (e := rfl) (hr := rfl) (k := hK' _ _ ?_) (hc := Try.call16) (h := heaps); clear hK' K'))) | refine al_e rfl rfl ?_ | refine al_u rfl rfl ?_ | ((fail_if_success (refine al_t rfl rfl fun K' hK' => ?_)); refine al_s _ rfl rfl rfl (fun hb => ?_) (fun hb => ?_)))); all_goals (refine al_nil ?_; simp only [go_sem, simprocAttr, hA, hB, *, Bool.and_true, Bool.and_false, Bool.true_and, Bool.false_and, Bool.or_true, Bool.true_or, Bool.or_false, Bool.false_or, Bool.not_true, Bool.not_false, Bool.false_eq_true]))); intro K hK; (simp only [go_sem, simprocAttr, hA, hB]); refine hK _ ?_; clear hK K
  refine awp_if (_) rfl (fun hc => ?_) (fun hc => ?_)
  · cases hc
  · refine awp_skip ?_
    refine hK _ ?_; clear hK K
    (refine awp_reg_seq [0, 2, 4, 9, 10, 11] fun K hK => ?_; (repeat' (first | ((first | refine al_r rfl fun K' hK' => ?_ | refine al_d rfl fun K' hK' => ?_ | refine al_t rfl rfl fun K' hK' => ?_); (repeat (first | (simp only [go_sem, simprocAttr, hA, hB]) | refine AS.mk ?_ | refine AAp.grow ?_)); (first | ((first | refine hK' _ _ ?_ | refine ⟨?_, hK' _ _ ?_⟩ | refine ⟨?_, ?_, hK' _ _ ?_⟩ | refine ⟨?_, ?_, ?_, hK' _ _ ?_⟩) <;> clear hK' K' <;> (first | (show alist _ _ _ _ _ _; skip) | (intro s hs; cases hs; done) | assumption | (simp; done) | omega | (simp; omega) | skip)) | ((show AC _ _ (D.fn 23 _) _ _); refine acall_p (f := 23) (e := rfl) (hr := rfl) (k := hK' _ _ ?_) (hc := Try.call23) (h := hbu); clear hK' K'))) | refine al_e rfl rfl ?_ | refine al_u rfl rfl ?_ | ((fail_if_success (refine al_t rfl rfl fun K' hK' => ?_)); refine al_s _ rfl rfl rfl (fun hb => ?_) (fun hb => ?_)))); all_goals (refine al_nil ?_; (simp only [go_sem, simprocAttr, hA, hB]); refine hK _ ?_; clear hK K))
    refine awp_seq_k fun K hK => ?_

    (refine awp_reg_tov [0, 2, 4, 9, 10, 42] [(42, bD true)] (h := ?_) (k := ?_); · ((repeat' (first | ((first | refine al_r rfl fun K' hK' => ?_ | refine al_d rfl fun K' hK' => ?_ | refine al_t rfl rfl fun K' hK' => ?_); (repeat (first | (simp only [go_sem, simprocAttr, he]) | refine AS.mk ?_ | refine AAp.grow ?_)); (first | ((first | refine hK' _ _ ?_ | refine ⟨?_, hK' _ _ ?_⟩ | refine ⟨?_, ?_, hK' _ _ ?_⟩ | refine ⟨?_, ?_, ?_, hK' _ _ ?_⟩) <;> clear hK' K' <;> (first | (show alist _ _ _ _ _ _; skip) | (intro s hs; cases hs; done) | assumption | (simp; done) | omega | (simp; omega) | skip)))) | refine al_e rfl rfl ?_ | refine al_u rfl rfl ?_ | ((fail_if_success (refine al_t rfl rfl fun K' hK' => ?_)); refine al_s _ rfl rfl rfl (fun hb => ?_) (fun hb => ?_)))); all_goals (refine al_nil ?_; simp only [go_sem, simprocAttr, he, *, Bool.and_true, Bool.and_false, Bool.true_and, Bool.false_and, Bool.or_true, Bool.true_or, Bool.or_false, Bool.false_or, Bool.not_true, Bool.not_false, Bool.false_eq_true]))); intro K hK; (simp only [go_sem, simprocAttr, he]); refine hK _ ?_; clear hK K
    refine awp_if (_) rfl (fun hc => ?_) (fun hc => ?_)

    · (refine awp_reg_tov [6] [(6, bD true)] (h := ?_) (k := ?_); · ((repeat' (first | ((first | refine al_r rfl fun K' hK' => ?_ | refine al_d rfl fun K' hK' => ?_ | refine al_t rfl rfl fun K' hK' => ?_); (repeat (first | (simp only [go_sem, simprocAttr, List.length_map, List.length_nil, List.map_nil, cast0, beq_self_eq_true]) | refine AS.mk ?_ | refine AAp.grow ?_)); (first | ((first | refine hK' _ _ ?_ | refine ⟨?_, hK' _ _ ?_⟩ | refine ⟨?_, ?_, hK' _ _ ?_⟩ | refine ⟨?_, ?_, ?_, hK' _ _ ?_⟩) <;> clear hK' K' <;> (first | (show alist _ _ _ _ _ _; skip) | (intro s hs; cases hs; done) | assumption | (simp; done) | omega | (simp; omega) | skip)))) | refine al_e rfl rfl ?_ | refine al_u rfl rfl ?_ | ((fail_if_success (refine al_t rfl rfl fun K' hK' => ?_)); refine al_s _ rfl rfl rfl (fun hb => ?_) (fun hb => ?_)))); all_goals (refine al_nil ?_; simp only [go_sem, simprocAttr, List.length_map, List.length_nil, List.map_nil, cast0, beq_self_eq_true, *, Bool.and_true, Bool.and_false, Bool.true_and, Bool.false_and, Bool.or_true, Bool.true_or, Bool.or_false, Bool.false_or, Bool.not_true, Bool.not_false, Bool.false_eq_true]))); intro K hK; (simp only [go_sem, simprocAttr, List.length_map, List.length_nil, List.map_nil, cast0, beq_self_eq_true]); refine hK _ ?_; clear hK K
      all_goals (refine awp_ret ?_; (first | refine hR _ _ (.inl rfl) rfl ?_ | refine hR _ _ (.inl rfl) rfl ?_ ?_); (first | (simp only [go_sem, simprocAttr, List.length_map, List.length_nil, List.map_nil, cast0, beq_self_eq_true, *, Bool.and_true, Bool.and_false, Bool.true_and, Bool.false_and, Bool.or_true, Bool.true_or, Bool.or_false, Bool.false_or, Bool.not_true, Bool.not_false, Bool.false_eq_true]; done) | contradiction | (simp_all; done) | simp only [go_sem, simprocAttr, List.length_map, List.length_nil, List.map_nil, cast0, beq_self_eq_true, *, Bool.and_true, Bool.and_false, Bool.true_and, Bool.false_and, Bool.or_true, Bool.true_or, Bool.or_false, Bool.false_or, Bool.not_true, Bool.not_false, Bool.false_eq_true]))
    · cases hc


theorem rightGood (h g : List Int) (k n a dp mn w i j : Int) (o o2 : Obj) (text : ByteArray) (args : List (List PV)) (hde : ACallP Try.prog 24 [valD k n text args] (.tup [iD dp, iD mn])) (hA : decide (dp > 40) = false) (hB : decide (mn > 400) = false)
    (hbu : ACallP Try.prog 23 [words h, valD k n text args] (.tup [words g, wD w, iD 0])) (hre : ACallP Try.prog 25 [words g, wD w] (.tup [valD k n text args, iD 0]))
    (hsv : ACallP Try.prog 26 [valD k n text args, valD k n text args] (bD true)) (heq : ACallP Try.prog 18 [words h, words h] (bD true)) (hhg : g.take h.length = h) (hle : h.length ≤ g.length)
    (hat1 : ACallP Try.prog 19 [words h, iD a] (.tup [objD o, iD i])) (hat2 : ACallP Try.prog 19 [words g, iD a] (.tup [objD o2, iD j])) (hij : i = 0 → j = 0 ∧ o2 = o ∧ ACallP Try.prog 21 [words o.parts, words o.parts] (bD true)) :
    ACallP Try.prog 5 [words h, valD k n text args, iD a] (bD true) := by
  have hlt : decide ((g.length : Int) < (h.length : Int)) = false := by simp; omega
  have htk : List.take h.length (g.map wrow) = h.map wrow := by rw [← List.map_take, hhg]
  have hrw := wrow1 g
  have h0 : (0 : Int) ≤ (h.length : Int) := Int.natCast_nonneg _
  have h1 : (h.length : Int) ≤ (g.length : Int) := by omega
  refine acallp_fn [6] Try.func5 rfl rfl Try.ntmps5 (by simp) fun R hR => ?_
  (refine awp_reg_seq [0, 2, 4] fun K hK => ?_; (repeat' (first | ((first | refine al_r rfl fun K' hK' => ?_ | refine al_d rfl fun K' hK' => ?_ | refine al_t rfl rfl fun K' hK' => ?_); (repeat (first | (simp only [go_sem, simprocAttr, beq_self_eq_true, bne_self_eq_false]) | refine AS.mk ?_ | refine AAp.grow ?_)); (first | ((first | refine hK' _ _ ?_ | refine ⟨?_, hK' _ _ ?_⟩ | refine ⟨?_, ?_, hK' _ _ ?_⟩ | refine ⟨?_, ?_, ?_, hK' _ _ ?_⟩) <;> clear hK' K' <;> (first | (show alist _ _ _ _ _ _; skip) | (intro s hs; cases hs; done) | assumption | (simp; done) | omega | (simp; omega) | skip)))) | refine al_e rfl rfl ?_ | refine al_u rfl rfl ?_ | ((fail_if_success (refine al_t rfl rfl fun K' hK' => ?_)); refine al_s _ rfl rfl rfl (fun hb => ?_) (fun hb => ?_)))); all_goals (refine al_nil ?_; (simp only [go_sem, simprocAttr, beq_self_eq_true, bne_self_eq_false]); refine hK _ ?_; clear hK K))
  (refine awp_frz [0, 2, 4] [] (by decide) (by simp) ?_; simp only [go_sem, simprocAttr, beq_self_eq_true, bne_self_eq_false])
  (refine awp_reg_seq [0, 2, 4, 7, 8] fun K hK => ?_; (repeat' (first | ((first | refine al_r rfl fun K' hK' => ?_ | refine al_d rfl fun K' hK' => ?_ | refine al_t rfl rfl fun K' hK' => ?_); (repeat (first | (simp only [go_sem, simprocAttr, beq_self_eq_true, bne_self_eq_false]) | refine AS.mk ?_ | refine AAp.grow ?_)); (first | ((first | refine hK' _ _ ?_ | refine ⟨?_, hK' _ _ ?_⟩ | refine ⟨?_, ?_, hK' _ _ ?_⟩ | refine ⟨?_, ?_, ?_, hK' _ _ ?_⟩) <;> clear hK' K' <;> (first | (show alist _ _ _ _ _ _; skip) | (intro s hs; cases hs; done) | assumption | (simp; done) | omega | (simp; omega) | skip)) | ((show AC _ _ (D.fn 24 _) _ _); refine acall_p (f := 24) (e := rfl) (hr := rfl) (k := hK' _ _ ?_) (hc := Try.call24) (h := hde); clear hK' K') | ((show AC _ _ (D.fn 24 _) _ _); refine acall_p (f := 24) (e := rfl) (hr := rfl) (k := hK' _ _ ?_) (hc := Try.call24) (h := hde); clear hK' K') | ((show AC _ _ (D.fn 24 _) _ _); refine acall_p (f := 24) (e := rfl) (hr := rfl) (k := hK' _ _ ?_) (hc := Try.call24) (h := hde); clear hK' K'))) | refine al_e rfl rfl ?_ | refine al_u rfl rfl ?_ | ((fail_if_success (refine al_t rfl rfl fun K' hK' => ?_)); refine al_s _ rfl rfl rfl (fun hb => ?_) (fun hb => ?_)))); all_goals (refine al_nil ?_; (simp only [go_sem, simprocAttr, beq_self_eq_true, bne_self_eq_false]); refine hK _ ?_; clear hK K))
  refine awp_seq_k fun K hK => ?_

  (refine awp_reg_tov [0, 2, 4, 32] [(32, bD false)] (h := ?_) (k := ?_); · ((repeat' (first | ((first | refine al_r rfl fun K' hK' => ?_ | refine al_d rfl fun K' hK' => ?_ | refine al_t rfl rfl fun K' hK' => ?_); (repeat (first | (simp only [go_sem, simprocAttr, hA, hB]) | refine AS.mk ?_ | refine AAp.grow ?_)); (first | ((first | refine hK' _ _ ?_ | refine ⟨?_, hK' _ _ ?_⟩ | refine ⟨?_, ?_, hK' _ _ ?_⟩ | refine ⟨?_, ?_, ?_, hK' _ _ ?_⟩) <;> clear hK' K' <;> (first | (show alist _ _ _ _ _ _; skip) | (intro s hs; cases hs; done) | assumption | (simp; done) | omega | (simp; omega) | skip)) | ((show AC _ _ (D.fn 16 _) _ _); refine acall_p (f := 16) (e := rfl) (hr := rfl) (k := hK' _ _ ?_) (hc := Try.call16) (h := heaps); clear hK' K') | ((show AC _ _ (D.fn 16 _) _ _); refine acall_p (f := 16) (e := rfl) (hr := rfl) (k := hK' _ _ ?_) (hc := Try.call16) (h := heaps); clear hK' K') | ((show AC _ _ (D.fn 16 _) _ _); refine acall_p (f := 16) (e := rfl) (hr := rfl) (k := hK' _ _ ?_) (hc := Try.call16) (h := heaps); clear hK' K'))) | refine al_e rfl rfl ?_ | refine al_u rfl rfl ?_ | ((fail_if_success (refine al_t rfl rfl fun K' hK' => ?_)); refine al_s _ rfl rfl rfl (fun hb => ?_) (fun hb => ?_)))); all_goals (refine al_nil ?_; simp only [go_sem, simprocAttr, hA, hB, *, Bool.and_true, Bool.and_false, Bool.true_and, Bool.false_and, Bool.or_true, Bool.true_or, Bool.or_false, Bool.false_or, Bool.not_true, Bool.not_false, Bool.false_eq_true]))); intro K hK; (simp only [go_sem, simprocAttr, hA, hB]); refine hK _ ?_; clear hK K
  refine awp_if (_) rfl (fun hc => ?_) (fun hc => ?_)
  · cases hc
  · refine awp_skip ?_
    refine hK _ ?_; clear hK K
    (refine awp_reg_seq [0, 2, 4, 9, 10, 11] fun K hK => ?_; (repeat' (first | ((first | refine al_r rfl fun K' hK' => ?_ | refine al_d rfl fun K' hK' => ?_ | refine al_t rfl rfl fun K' hK' => ?_); (repeat (first | (simp only [go_sem, simprocAttr, hA, hB]) | refine AS.mk ?_ | refine AAp.grow ?_)); (first | ((first | refine hK' _ _ ?_ | refine ⟨?_, hK' _ _ ?_⟩ | refine ⟨?_, ?_, hK' _ _ ?_⟩ | refine ⟨?_, ?_, ?_, hK' _ _ ?_⟩) <;> clear hK' K' <;> (first | (show alist _ _ _ _ _ _; skip) | (intro s hs; cases hs; done) | assumption | (simp; done) | omega | (simp; omega) | skip)) | ((show AC _ _ (D.fn 23 _) _ _); refine acall_p (f := 23) (e := rfl) (hr := rfl) (k := hK' _ _ ?_) (hc := Try.call23) (h := hbu); clear hK' K') | ((show AC _ _ (D.fn 23 _) _ _); refine acall_p (f := 23) (e := rfl) (hr := rfl) (k := hK' _ _ ?_) (hc := Try.call23) (h := hbu); clear hK' K'))) | refine al_e rfl rfl ?_ | refine al_u rfl rfl ?_ | ((fail_if_success (refine al_t rfl rfl fun K' hK' => ?_)); refine al_s _ rfl rfl rfl (fun hb => ?_) (fun hb => ?_)))); all_goals (refine al_nil ?_; (simp only [go_sem, simprocAttr, hA, hB]); refine hK _ ?_; clear hK K))
    refine awp_seq_k fun K hK => ?_

    (refine awp_reg_tov [0, 2, 4, 9, 10, 42] [(42, bD false)] (h := ?_) (k := ?_); · ((repeat' (first | ((first | refine al_r rfl fun K' hK' => ?_ | refine al_d rfl fun K' hK' => ?_ | refine al_t rfl rfl fun K' hK' => ?_); (repeat (first | (simp only [go_sem, simprocAttr, bne_self_eq_false]) | refine AS.mk ?_ | refine AAp.grow ?_)); (first | ((first | refine hK' _ _ ?_ | refine ⟨?_, hK' _ _ ?_⟩ | refine ⟨?_, ?_, hK' _ _ ?_⟩ | refine ⟨?_, ?_, ?_, hK' _ _ ?_⟩) <;> clear hK' K' <;> (first | (show alist _ _ _ _ _ _; skip) | (intro s hs; cases hs; done) | assumption | (simp; done) | omega | (simp; omega) | skip)))) | refine al_e rfl rfl ?_ | refine al_u rfl rfl ?_ | ((fail_if_success (refine al_t rfl rfl fun K' hK' => ?_)); refine al_s _ rfl rfl rfl (fun hb => ?_) (fun hb => ?_)))); all_goals (refine al_nil ?_; simp only [go_sem, simprocAttr, bne_self_eq_false, *, Bool.and_true, Bool.and_false, Bool.true_and, Bool.false_and, Bool.or_true, Bool.true_or, Bool.or_false, Bool.false_or, Bool.not_true, Bool.not_false, Bool.false_eq_true]))); intro K hK; (simp only [go_sem, simprocAttr, bne_self_eq_false]); refine hK _ ?_; clear hK K
    refine awp_if (_) rfl (fun hc => ?_) (fun hc => ?_)
    · cases hc
    · refine awp_skip ?_
      refine hK _ ?_; clear hK K
      (refine awp_reg_seq [0, 2, 4, 9, 12, 13] fun K hK => ?_; (repeat' (first | ((first | refine al_r rfl fun K' hK' => ?_ | refine al_d rfl fun K' hK' => ?_ | refine al_t rfl rfl fun K' hK' => ?_); (repeat (first | (simp only [go_sem, simprocAttr, bne_self_eq_false]) | refine AS.mk ?_ | refine AAp.grow ?_)); (first | ((first | refine hK' _ _ ?_ | refine ⟨?_, hK' _ _ ?_⟩ | refine ⟨?_, ?_, hK' _ _ ?_⟩ | refine ⟨?_, ?_, ?_, hK' _ _ ?_⟩) <;> clear hK' K' <;> (first | (show alist _ _ _ _ _ _; skip) | (intro s hs; cases hs; done) | assumption | (simp; done) | omega | (simp; omega) | skip)) | ((show AC _ _ (D.fn 25 _) _ _); refine acall_p (f := 25) (e := rfl) (hr := rfl) (k := hK' _ _ ?_) (hc := Try.call25) (h := hre); clear hK' K'))) | refine al_e rfl rfl ?_ | refine al_u rfl rfl ?_ | ((fail_if_success (refine al_t rfl rfl fun K' hK' => ?_)); refine al_s _ rfl rfl rfl (fun hb => ?_) (fun hb => ?_)))); all_goals (refine al_nil ?_; (simp only [go_sem, simprocAttr, bne_self_eq_false]); refine hK _ ?_; clear hK K))
      (refine awp_frz [0, 2, 4, 9, 12, 13] [] (by decide) (by simp) ?_; simp only [go_sem, simprocAttr, bne_self_eq_false])
      refine awp_seq_k fun K hK => ?_

      refine awp_reg_tov [0, 2, 9, 79] [(79, bD false)] (h := ?_) (k := ?_)
      · all_goals ((repeat' (first | ((first | refine al_r rfl fun K' hK' => ?_ | refine al_d rfl fun K' hK' => ?_ | refine al_t rfl rfl fun K' hK' => ?_); (repeat (first | (simp only [go_sem, simprocAttr, List.length_map, bne_self_eq_false, beq_self_eq_true, hlt, htk, h0, h1, hle, Int.toNat_natCast]) | refine AS.mk ?_ | refine AAp.grow ?_)); (first | ((first | refine hK' _ _ ?_ | refine ⟨?_, hK' _ _ ?_⟩ | refine ⟨?_, ?_, hK' _ _ ?_⟩ | refine ⟨?_, ?_, ?_, hK' _ _ ?_⟩) <;> clear hK' K' <;> (first | (show alist _ _ _ _ _ _; skip) | (intro s hs; cases hs; done) | assumption | (simp; done) | omega | (simp; omega) | skip)) | ((show AC _ _ (D.fn 26 _) _ _); refine acall_p (f := 26) (e := rfl) (hr := rfl) (k := hK' _ _ ?_) (hc := Try.call26) (h := hsv); clear hK' K') | ((show AC _ _ (D.fn 18 _) _ _); refine acall_p (f := 18) (e := rfl) (hr := rfl) (k := hK' _ _ ?_) (hc := Try.call18) (h := heq); clear hK' K'))) | refine al_e rfl rfl ?_ | refine al_u rfl rfl ?_ | ((fail_if_success (refine al_t rfl rfl fun K' hK' => ?_)); refine al_s _ rfl rfl rfl (fun hb => ?_) (fun hb => ?_)))); all_goals (refine al_nil ?_; (first | (simp only [go_sem, simprocAttr, List.length_map, bne_self_eq_false, beq_self_eq_true, hlt, htk, h0, h1, hle, Int.toNat_natCast, *, Bool.and_true, Bool.and_false, Bool.true_and, Bool.false_and, Bool.or_true, Bool.true_or, Bool.or_false, Bool.false_or, Bool.not_true, Bool.not_false, Bool.false_eq_true]; done) | contradiction | (simp_all; done) | simp only [go_sem, simprocAttr, List.length_map, bne_self_eq_false, beq_self_eq_true, hlt, htk, h0, h1, hle, Int.toNat_natCast, *, Bool.and_true, Bool.and_false, Bool.true_and, Bool.false_and, Bool.or_true, Bool.true_or, Bool.or_false, Bool.false_or, Bool.not_true, Bool.not_false, Bool.false_eq_true])))

      (intro K hK; (simp only [go_sem, simprocAttr, List.length_map]); refine hK _ ?_; clear hK K)
      refine awp_if (_) rfl (fun hc => ?_) (fun hc => ?_)
      · cases hc
      · refine awp_skip ?_
        refine hK _ ?_; clear hK K
        (refine awp_reg_seq [2, 9, 14, 15] fun K hK => ?_; (repeat' (first | ((first | refine al_r rfl fun K' hK' => ?_ | refine al_d rfl fun K' hK' => ?_ | refine al_t rfl rfl fun K' hK' => ?_); (repeat (first | (simp only [go_sem, simprocAttr, List.length_map]) | refine AS.mk ?_ | refine AAp.grow ?_)); (first | ((first | refine hK' _ _ ?_ | refine ⟨?_, hK' _ _ ?_⟩ | refine ⟨?_, ?_, hK' _ _ ?_⟩ | refine ⟨?_, ?_, ?_, hK' _ _ ?_⟩) <;> clear hK' K' <;> (first | (show alist _ _ _ _ _ _; skip) | (intro s hs; cases hs; done) | assumption | (simp; done) | omega | (simp; omega) | skip)) | ((show AC _ _ (D.fn 19 _) _ _); refine acall_p (f := 19) (e := rfl) (hr := rfl) (k := hK' _ _ ?_) (hc := Try.call19) (h := hat1); clear hK' K') | ((show AC _ _ (D.fn 19 _) _ _); refine acall_p (f := 19) (e := rfl) (hr := rfl) (k := hK' _ _ ?_) (hc := Try.call19) (h := hat2); clear hK' K'))) | refine al_e rfl rfl ?_ | refine al_u rfl rfl ?_ | ((fail_if_success (refine al_t rfl rfl fun K' hK' => ?_)); refine al_s _ rfl rfl rfl (fun hb => ?_) (fun hb => ?_)))); all_goals (refine al_nil ?_; (simp only [go_sem, simprocAttr, List.length_map]); refine hK _ ?_; clear hK K))
        (refine awp_frz [2, 9, 14, 15] [] (by decide) (by simp) ?_; simp only [go_sem, simprocAttr, List.length_map])
        (refine awp_reg_seq [14, 15, 16, 17] fun K hK => ?_; (repeat' (first | ((first | refine al_r rfl fun K' hK' => ?_ | refine al_d rfl fun K' hK' => ?_ | refine al_t rfl rfl fun K' hK' => ?_); (repeat (first | (simp only [go_sem, simprocAttr, List.length_map]) | refine AS.mk ?_ | refine AAp.grow ?_)); (first | ((first | refine hK' _ _ ?_ | refine ⟨?_, hK' _ _ ?_⟩ | refine ⟨?_, ?_, hK' _ _ ?_⟩ | refine ⟨?_, ?_, ?_, hK' _ _ ?_⟩) <;> clear hK' K' <;> (first | (show alist _ _ _ _ _ _; skip) | (intro s hs; cases hs; done) | assumption | (simp; done) | omega | (simp; omega) | skip)) | ((show AC _ _ (D.fn 19 _) _ _); refine acall_p (f := 19) (e := rfl) (hr := rfl) (k := hK' _ _ ?_) (hc := Try.call19) (h := hat1); clear hK' K') | ((show AC _ _ (D.fn 19 _) _ _); refine acall_p (f := 19) (e := rfl) (hr := rfl) (k := hK' _ _ ?_) (hc := Try.call19) (h := hat2); clear hK' K'))) | refine al_e rfl rfl ?_ | refine al_u rfl rfl ?_ | ((fail_if_success (refine al_t rfl rfl fun K' hK' => ?_)); refine al_s _ rfl rfl rfl (fun hb => ?_) (fun hb => ?_)))); all_goals (refine al_nil ?_; (simp only [go_sem, simprocAttr, List.length_map]); refine hK _ ?_; clear hK K))
        (refine awp_frz [14, 15, 16, 17] [] (by decide) (by simp) ?_; simp only [go_sem, simprocAttr, List.length_map])
        refine awp_reg_tov [6] [(6, bD true)] (h := ?_) (k := ?_)
        · by_cases hi : i = 0
          · obtain ⟨rfl, rfl, hpu⟩ := hij hi
            subst hi

            ((repeat' (first | ((first | refine al_r rfl fun K' hK' => ?_ | refine al_d rfl fun K' hK' => ?_ | refine al_t rfl rfl fun K' hK' => ?_); (repeat (first | (simp only [go_sem, simprocAttr, beq_self_eq_true, bne_self_eq_false]) | refine AS.mk ?_ | refine AAp.grow ?_)); (first | ((first | refine hK' _ _ ?_ | refine ⟨?_, hK' _ _ ?_⟩ | refine ⟨?_, ?_, hK' _ _ ?_⟩ | refine ⟨?_, ?_, ?_, hK' _ _ ?_⟩) <;> clear hK' K' <;> (first | (show alist _ _ _ _ _ _; skip) | (intro s hs; cases hs; done) | assumption | (simp; done) | omega | (simp; omega) | skip)) | ((show AC _ _ (D.fn 21 _) _ _); refine acall_p (f := 21) (e := rfl) (hr := rfl) (k := hK' _ _ ?_) (hc := Try.call21) (h := hpu); clear hK' K'))) | refine al_e rfl rfl ?_ | refine al_u rfl rfl ?_ | ((fail_if_success (refine al_t rfl rfl fun K' hK' => ?_)); refine al_s _ rfl rfl rfl (fun hb => ?_) (fun hb => ?_)))); all_goals (refine al_nil ?_; (first | (simp only [go_sem, simprocAttr, beq_self_eq_true, bne_self_eq_false, *, Bool.and_true, Bool.and_false, Bool.true_and, Bool.false_and, Bool.or_true, Bool.true_or, Bool.or_false, Bool.false_or, Bool.not_true, Bool.not_false, Bool.false_eq_true]; done) | contradiction | (simp_all; done) | simp only [go_sem, simprocAttr, beq_self_eq_true, bne_self_eq_false, *, Bool.and_true, Bool.and_false, Bool.true_and, Bool.false_and, Bool.or_true, Bool.true_or, Bool.or_false, Bool.false_or, Bool.not_true, Bool.not_false, Bool.false_eq_true])))
          · have hin : (i != 0) = true := by simpa using hi

            ((repeat' (first | ((first | refine al_r rfl fun K' hK' => ?_ | refine al_d rfl fun K' hK' => ?_ | refine al_t rfl rfl fun K' hK' => ?_); (repeat (first | (simp only [go_sem, simprocAttr, hin]) | refine AS.mk ?_ | refine AAp.grow ?_)); (first | ((first | refine hK' _ _ ?_ | refine ⟨?_, hK' _ _ ?_⟩ | refine ⟨?_, ?_, hK' _ _ ?_⟩ | refine ⟨?_, ?_, ?_, hK' _ _ ?_⟩) <;> clear hK' K' <;> (first | (show alist _ _ _ _ _ _; skip) | (intro s hs; cases hs; done) | assumption | (simp; done) | omega | (simp; omega) | skip)) | ((show AC _ _ (D.fn 21 _) _ _); refine acall_p (f := 21) (e := rfl) (hr := rfl) (k := hK' _ _ ?_) (hc := Try.call21) (h := hpu); clear hK' K'))) | refine al_e rfl rfl ?_ | refine al_u rfl rfl ?_ | ((fail_if_success (refine al_t rfl rfl fun K' hK' => ?_)); refine al_s _ rfl rfl rfl (fun hb => ?_) (fun hb => ?_)))); all_goals (refine al_nil ?_; (first | (simp only [go_sem, simprocAttr, hin, *, Bool.and_true, Bool.and_false, Bool.true_and, Bool.false_and, Bool.or_true, Bool.true_or, Bool.or_false, Bool.false_or, Bool.not_true, Bool.not_false, Bool.false_eq_true]; done) | contradiction | (simp_all; done) | simp only [go_sem, simprocAttr, hin, *, Bool.and_true, Bool.and_false, Bool.true_and, Bool.false_and, Bool.or_true, Bool.true_or, Bool.or_false, Bool.false_or, Bool.not_true, Bool.not_false, Bool.false_eq_true])))

        (intro K hK; (simp only [go_sem, simprocAttr]); refine hK _ ?_; clear hK K)
        all_goals (refine awp_ret ?_; (first | refine hR _ _ (.inl rfl) rfl ?_ | refine hR _ _ (.inl rfl) rfl ?_ ?_); (first | (simp only [go_sem, simprocAttr, *, Bool.and_true, Bool.and_false, Bool.true_and, Bool.false_and, Bool.or_true, Bool.true_or, Bool.or_false, Bool.false_or, Bool.not_true, Bool.not_false, Bool.false_eq_true]; done) | contradiction | (simp_all; done) | simp only [go_sem, simprocAttr, *, Bool.and_true, Bool.and_false, Bool.true_and, Bool.false_and, Bool.or_true, Bool.true_or, Bool.or_false, Bool.false_or, Bool.not_true, Bool.not_false, Bool.false_eq_true]))

theorem heapRight (h : List Int) (hh : HeapOk h) (f : Nat) (k n : Int) (text : ByteArray) (args : List (List PV)) (a : Int) (hsh : shapeOk Try.prog f 38 [.lit (.int .i64 k), .lit (.int .i64 n), .lit (.string text), .sl args]) :
    ACallP Try.prog 5 [words h, valD k n text args, iD a] (bD true) := by
  obtain ⟨dp, mn, hde, hdm⟩ := deepE f _ hsh
  obtain ⟨B, hB1, hB2⟩ := buildR f _ hsh
  have hsv := sameVal f _ hsh
  simp only [List.map_cons, List.map_nil] at hde hsv
  by_cases hc : (decide (dp > 40) || decide (mn > 400)) = true
  · exact rightBad h k n a dp mn text args hde hc
  · simp at hc
    have hA : decide (dp > 40) = false := by simp; omega
    have hB : decide (mn > 400) = false := by simp; omega
    have hbu := (hB1 h hh.1).1
    simp only [List.map_cons, List.map_nil] at hbu
    rcases hB2 h hh with ⟨h1, h2, h3⟩ | ⟨h1, _, h3, L, f', d, c, h4, h5, h6, h7, h8⟩
    · rw [h2, h3] at hbu
      exact rightErr h k n a dp mn _ text args hde hA hB (by simpa using h1) hbu
    · rw [h1] at hbu
      have hc4 : c ≤ 4001 := by
        rcases h6 with h6 | h6
        · subst h6
          simp [flat] at h8
          omega
        · rw [h4, List.length_append] at h6
          omega
      obtain ⟨e1, e2⟩ := hdm _ f' _ d c h7 (by omega)
      generalize (B h).1 = g at *
      generalize (B h).2.1 = w at *
      have hg : HeapOk g := by rw [h4]; exact grow_ok hh h5 (by rw [← h4]; exact h3)
      have hre := readV g w k n text args _ (readR hg f' w _ d c h7 40 400 (by omega) (by omega) (by omega) (by omega))
      have heq := equalW h h (big_max hh.1)
      rw [(listEq_iff eqI_iff).2 rfl] at heq
      have hat1 := at_ h a (big_max hh.1) hh.2
      have hat2 := at_ g a (big_max hg.1) hg.2
      refine rightGood h g k n a dp mn w _ _ _ _ text args hde hA hB hbu hre hsv heq (by rw [h4, List.take_left]) (by rw [h4, List.length_append]; omega) hat1 hat2 fun hi => ?_
      have hat : atS h a = ((atS h a).1, 0) := by rw [← hi]
      have hp := at_prefix hh (flat L) hat
      rw [← h4] at hp
      obtain ⟨_, _, _, _, hri, _⟩ := at_ok hi (big_max hh.1) hh.2
      have hp4 := (right_small hri).2
      rw [hp]
      exact ⟨rfl, rfl, equalU_same _ (by simp [maxLen]; omega)⟩
end Go.Proofs.Ytagphggcdmjlpaa.P
/- Shapes for HeapRight. -/
namespace Go.Proofs.Ytagphggcdmjlpaa.P
open Go.Ab

theorem b34 : Try.prog.bytesOf 34 = 8 := by kernel_rfl
theorem sh23B {f : Nat} {xs : List PV} (h : shapeOk Try.prog f 23 xs) : ∃ ls : List Int, xs = [.sl (ls.map wrow)] ∧ HeapOk ls := by
  obtain ⟨n, rows, _, e0, hmax, hb, hr⟩ := shape_slice Try.underlying23 h
  obtain ⟨ls, rfl, hls⟩ := word_rows rows hr
  rw [b34, List.length_map] at hb
  have hre : reachBytes = 140737488351232 := by kernel_rfl
  exact ⟨ls, e0, by simp only [BIG]; omega, hls⟩
end Go.Proofs.Ytagphggcdmjlpaa.P
