/- What the function of the statement WardCalm answers. -/
import Derived.Test.YtonfjlbklmcpoaaW13
set_option linter.unusedSimpArgs false
set_option linter.unusedVariables false
namespace Go.Proofs.Ytonfjlbklmcpoaa.P
open Go.Ab Go.Proofs.Ytonfjlbklmcpoaa.T

def whenS (ls : List Child) (q : Int) : Bool := match ls[q.toNat]? with | some x => x.when == 1 | none => false

def key (c : Child) : Int × Int := (c.cid, c.when)

theorem any_key (l : List Child) (v : Int) : decide (findS l v ≥ 0) = (l.map key).any fun p => p.1 == v := by
  unfold findS
  rw [firstAt_nonneg, List.any_map]
  rfl

theorem bad_key {c d : Child} (h : key c = key d) : badChild c = badChild d := by
  have : c.when = d.when := congrArg Prod.snd h
  unfold badChild
  rw [this]

theorem scanC_key {all all' : List Child} (h : all.map key = all'.map key) : ∀ (l l' : List Child) (i : Nat), l.map key = l'.map key → scanC all i l = scanC all' i l'
  | [], [], _, _ => rfl
  | [], _ :: _, _, e => by cases e
  | _ :: _, [], _, e => by cases e
  | c :: l, d :: l', i, e => by
    simp only [List.map_cons, List.cons.injEq] at e
    have hid : c.cid = d.cid := congrArg Prod.fst e.1
    unfold scanC
    rw [bad_key e.1, any_key, any_key, List.map_take, List.map_take, h, hid, scanC_key h l l' (i + 1) e.2]

theorem wcheck_key {w v : Ward} (h1 : v.how = w.how) (h2 : v.most = w.most) (h3 : v.window = w.window) (h4 : v.children.map key = w.children.map key) (h5 : v.times = w.times) : wcheckS v = wcheckS w := by
  have hl : v.children.length = w.children.length := by have := congrArg List.length h4; simpa using this
  unfold wcheckS badWard bigWard
  rw [h1, h2, h3, h5, hl, scanC_key h4 _ _ 0 h4]

theorem set_key {ls : List Child} {i : Nat} {x y : Child} (hx : ls[i]? = some x) (hy : key y = key x) : (ls.set i y).map key = ls.map key := by
  rw [List.map_set, hy]
  exact set_same (by rw [List.getElem?_map, hx]; rfl)

theorem alive_key (ls : List Child) : (ls.map alive).map key = ls.map key := by
  rw [List.map_map]
  rfl

theorem calm_pure {w : Ward} {id now : Int} (h : (downS w id false now).2.2 = 0) (hw : whenS w.children (findS w.children id) = false) :
    (downS w id false now).2.1.stop = [] ∧ (downS w id false now).2.1.start = [] ∧ (downS w id false now).2.1.gaveUp = false ∧ (downS w id false now).1.times = w.times ∧
      (beginS (downS w id false now).1).2.2 = 0 ∧ decide (firstAt (fun n => id == n) (beginS (downS w id false now).1).2.1 ≥ 0) = true ∧ wcheckS (beginS (downS w id false now).1).1 = 0 := by
  obtain ⟨hck, i, x, hf, hx, hid, hlv, hbn, he⟩ := down_ok h
  obtain ⟨c1, c2, c3, c4, c5⟩ := wcheck_ok hck
  have hwh : (x.when == 1) = false := by
    rw [hf] at hw
    unfold whenS at hw
    rw [Int.toNat_natCast, hx] at hw
    exact hw
  have hq : quiet x false = true := by
    have hb := (c4 i x hx).1
    unfold badChild at hb
    simp only [Bool.or_eq_false_iff, decide_eq_false_iff_not] at hb
    have h1 : x.when ≠ 1 := by simpa using hwh
    have h2 : x.when = 2 ∨ x.when = 3 := by omega
    unfold quiet
    rcases h2 with h2 | h2 <;> rw [h2] <;> rfl
  rw [if_pos hq] at he
  rw [he]
  have hk : wcheckS ⟨w.how, w.most, w.window, w.children.set i (dead x), w.times⟩ = 0 := 
    (wcheck_key (w := w) (v := ⟨w.how, w.most, w.window, w.children.set i (dead x), w.times⟩) rfl rfl rfl (set_key (y := dead x) hx rfl) rfl).trans hck
  refine ⟨rfl, rfl, rfl, rfl, ?_⟩
  have hb : beginS ⟨w.how, w.most, w.window, w.children.set i (dead x), w.times⟩ = (⟨w.how, w.most, w.window, (w.children.set i (dead x)).map alive, w.times⟩, bornS (w.children.set i (dead x)), 0) := by
    unfold beginS
    rw [if_neg (by rw [hk]; simp)]
  rw [hb]
  refine ⟨rfl, ?_, ?_⟩
  · rw [firstAt_nonneg, List.any_eq_true]
    refine ⟨id, ?_, by simp⟩
    unfold bornS
    rw [List.mem_map]
    refine ⟨dead x, List.mem_filter.2 ⟨?_, rfl⟩, hid⟩
    exact List.mem_of_getElem? (i := i) (List.getElem?_set_self (lt_of_get hx))
  · rw [← hk]
    exact wcheck_key rfl rfl rfl (alive_key _) rfl

theorem begin_len (w : Ward) : (beginS w).2.1.length ≤ w.children.length := by
  unfold beginS
  split
  · exact Nat.zero_le _
  · exact born_le _

theorem down_kids (w : Ward) (id : Int) (failed : Bool) (now : Int) : (downS w id failed now).1.children.length ≤ w.children.length ∧ (downS w id failed now).1.times.length ≤ w.times.length + 1 := by
  have hz : zW.children.length ≤ w.children.length ∧ zW.times.length ≤ w.times.length + 1 := ⟨Nat.zero_le _, Nat.zero_le _⟩
  unfold downS
  split
  · exact hz
  · split
    · exact hz
    · split
      · unfold downA
        split
        · exact hz
        · split
          · exact hz
          · split
            · exact ⟨by simp, by simp⟩
            · unfold fallS
              have hr : (recentS now w.window w.times).length ≤ w.times.length := List.length_filter_le _ _
              split
              · exact ⟨by simp [stopped], by show (recentS now w.window w.times).length ≤ _; omega⟩
              · exact ⟨by simp [allA], by simp; omega⟩
      · exact hz









theorem calmLaw (w w' y : Ward) (p : Plan) (l : List Int) (id now e e2 e3 : Int) (hl : w.children.length ≤ maxLen) (h2 : w.times.length ≤ maxLen) (h3 : l.length ≤ maxLen)
    (hdown : ACallP Try.prog 9 [wardD w, iD id, bD false, iD now] (.tup [wardD w', planD p, iD e]))
    (hbeg : ACallP Try.prog 21 [wardD w'] (.tup [wardD y, ints l, iD e2]))
    (hchk : ACallP Try.prog 24 [wardD y] (iD e3))
    (f : e = 0 → whenS w.children (findS w.children id) = false → p.stop = [] ∧ p.start = [] ∧ p.gaveUp = false ∧ w'.times = w.times ∧ e2 = 0 ∧ decide (firstAt (fun n => id == n) l ≥ 0) = true ∧ e3 = 0) :
    ACallP Try.prog 7 [wardD w, iD id, iD now] (bD true) := by
  have hf20 := find20 w.children hl id
  have hcon := contains l h3 id
  have heq := equalI w.times w.times h2
  have heq2 : listEq eqI w.times w.times = true := (listEq_iff eqI_iff).2 rfl
  rw [heq2] at heq
  have hrange := firstAt_range (fun c : Child => c.cid == id) w.children
  change (findS w.children id = -1 ∧ _) ∨ (∃ (i : Nat) (x : Child), findS w.children id = i ∧ _) at hrange
  generalize hq : findS w.children id = q at hf20 f hrange
  refine acallp_fn [6] Try.func7 rfl rfl Try.ntmps7 (by simp) fun R hR => ?_
  (refine awp_reg_seq [2, 3, 4] fun K hK => ?_; (repeat' (first | ((first | refine al_run rfl rfl (by decide) fun K' hK' => ?_ | refine al_do rfl rfl fun K' hK' => ?_ | refine al_then rfl rfl rfl (by decide) fun K' hK' => ?_); (simp only [go_sem, Nat.reduceLT, Nat.reduceLeDiff, Nat.reduceEqDiff, Nat.reduceAdd, Nat.reduceSub, Nat.reduceMul, Int.reduceToNat, Int.reduceLE, Int.reduceLT, ↓reduceIte, reduceCtorEq, Int.reduceBEq, Int.reduceBNe, Int.reduceGT, Int.reduceGE, decide_true, decide_false, List.length_map]); (try ((first | refine AS.mk ?_ | refine AAp.grow ?_); (simp only [go_sem, Nat.reduceLT, Nat.reduceLeDiff, Nat.reduceEqDiff, Nat.reduceAdd, Nat.reduceSub, Nat.reduceMul, Int.reduceToNat, Int.reduceLE, Int.reduceLT, ↓reduceIte, reduceCtorEq, Int.reduceBEq, Int.reduceBNe, Int.reduceGT, Int.reduceGE, decide_true, decide_false, List.length_map]))); (first | ((first | refine hK' _ _ ?_ | refine ⟨?_, hK' _ _ ?_⟩ | refine ⟨?_, ?_, hK' _ _ ?_⟩ | refine ⟨?_, ?_, ?_, hK' _ _ ?_⟩) <;> clear hK' K' <;> (first | (show alist _ _ _ _ _ _; skip) | (intro s hs; cases hs; done) | assumption | (simp; done) | omega | (simp; omega) | skip)) | ((show AC _ _ (D.fn 9 _) _ _); refine acall_p (f := 9) (e := rfl) (hr := rfl) (k := hK' _ _ ?_) (hc := Try.call9) (h := hdown); clear hK' K') | ((show AC _ _ (D.fn 10 _) _ _); refine acall_p (f := 10) (e := rfl) (hr := rfl) (k := hK' _ _ ?_) (hc := Try.call10) (h := wards); clear hK' K') | ((show AC _ _ (D.fn 12 _) _ _); refine acall_p (f := 12) (e := rfl) (hr := rfl) (k := hK' _ _ ?_) (hc := Try.call12) (h := hf20); clear hK' K') | ((show AC _ _ (D.fn 21 _) _ _); refine acall_p (f := 21) (e := rfl) (hr := rfl) (k := hK' _ _ ?_) (hc := Try.call21) (h := hbeg); clear hK' K') | ((show AC _ _ (D.fn 22 _) _ _); refine acall_p (f := 22) (e := rfl) (hr := rfl) (k := hK' _ _ ?_) (hc := Try.call22) (h := heq); clear hK' K') | ((show AC _ _ (D.fn 23 _) _ _); refine acall_p (f := 23) (e := rfl) (hr := rfl) (k := hK' _ _ ?_) (hc := Try.call23) (h := hcon); clear hK' K') | ((show AC _ _ (D.fn 24 _) _ _); refine acall_p (f := 24) (e := rfl) (hr := rfl) (k := hK' _ _ ?_) (hc := Try.call24) (h := hchk); clear hK' K'))) | (refine al_else rfl rfl rfl (by decide) ?_) | (refine al_undef rfl rfl rfl (by decide) ?_) | ((fail_if_success (refine al_then rfl rfl rfl (by decide) fun K' hK' => ?_)); refine al_split _ rfl rfl rfl (fun hb => ?_) (fun hb => ?_)))); all_goals (refine al_nil ?_; (simp only [go_sem, Nat.reduceLT, Nat.reduceLeDiff, Nat.reduceEqDiff, Nat.reduceAdd, Nat.reduceSub, Nat.reduceMul, Int.reduceToNat, Int.reduceLE, Int.reduceLT, ↓reduceIte, reduceCtorEq, Int.reduceBEq, Int.reduceBNe, Int.reduceGT, Int.reduceGE, decide_true, decide_false, List.length_map]); refine hK _ ?_; clear hK K))
  (refine awp_frz [2, 3, 4] [] (by decide) (by simp) ?_; simp only [go_sem, Nat.reduceLT, Nat.reduceLeDiff, Nat.reduceEqDiff, Nat.reduceAdd, Nat.reduceSub, Nat.reduceMul, Int.reduceToNat, Int.reduceLE, Int.reduceLT, ↓reduceIte, reduceCtorEq, Int.reduceBEq, Int.reduceBNe, Int.reduceGT, Int.reduceGE, decide_true, decide_false, List.length_map])
  (refine awp_reg_seq [2, 3, 4, 7] fun K hK => ?_; (repeat' (first | ((first | refine al_run rfl rfl (by decide) fun K' hK' => ?_ | refine al_do rfl rfl fun K' hK' => ?_ | refine al_then rfl rfl rfl (by decide) fun K' hK' => ?_); (simp only [go_sem, Nat.reduceLT, Nat.reduceLeDiff, Nat.reduceEqDiff, Nat.reduceAdd, Nat.reduceSub, Nat.reduceMul, Int.reduceToNat, Int.reduceLE, Int.reduceLT, ↓reduceIte, reduceCtorEq, Int.reduceBEq, Int.reduceBNe, Int.reduceGT, Int.reduceGE, decide_true, decide_false, List.length_map]); (try ((first | refine AS.mk ?_ | refine AAp.grow ?_); (simp only [go_sem, Nat.reduceLT, Nat.reduceLeDiff, Nat.reduceEqDiff, Nat.reduceAdd, Nat.reduceSub, Nat.reduceMul, Int.reduceToNat, Int.reduceLE, Int.reduceLT, ↓reduceIte, reduceCtorEq, Int.reduceBEq, Int.reduceBNe, Int.reduceGT, Int.reduceGE, decide_true, decide_false, List.length_map]))); (first | ((first | refine hK' _ _ ?_ | refine ⟨?_, hK' _ _ ?_⟩ | refine ⟨?_, ?_, hK' _ _ ?_⟩ | refine ⟨?_, ?_, ?_, hK' _ _ ?_⟩) <;> clear hK' K' <;> (first | (show alist _ _ _ _ _ _; skip) | (intro s hs; cases hs; done) | assumption | (simp; done) | omega | (simp; omega) | skip)) | ((show AC _ _ (D.fn 9 _) _ _); refine acall_p (f := 9) (e := rfl) (hr := rfl) (k := hK' _ _ ?_) (hc := Try.call9) (h := hdown); clear hK' K') | ((show AC _ _ (D.fn 10 _) _ _); refine acall_p (f := 10) (e := rfl) (hr := rfl) (k := hK' _ _ ?_) (hc := Try.call10) (h := wards); clear hK' K') | ((show AC _ _ (D.fn 12 _) _ _); refine acall_p (f := 12) (e := rfl) (hr := rfl) (k := hK' _ _ ?_) (hc := Try.call12) (h := hf20); clear hK' K') | ((show AC _ _ (D.fn 21 _) _ _); refine acall_p (f := 21) (e := rfl) (hr := rfl) (k := hK' _ _ ?_) (hc := Try.call21) (h := hbeg); clear hK' K') | ((show AC _ _ (D.fn 22 _) _ _); refine acall_p (f := 22) (e := rfl) (hr := rfl) (k := hK' _ _ ?_) (hc := Try.call22) (h := heq); clear hK' K') | ((show AC _ _ (D.fn 23 _) _ _); refine acall_p (f := 23) (e := rfl) (hr := rfl) (k := hK' _ _ ?_) (hc := Try.call23) (h := hcon); clear hK' K') | ((show AC _ _ (D.fn 24 _) _ _); refine acall_p (f := 24) (e := rfl) (hr := rfl) (k := hK' _ _ ?_) (hc := Try.call24) (h := hchk); clear hK' K'))) | (refine al_else rfl rfl rfl (by decide) ?_) | (refine al_undef rfl rfl rfl (by decide) ?_) | ((fail_if_success (refine al_then rfl rfl rfl (by decide) fun K' hK' => ?_)); refine al_split _ rfl rfl rfl (fun hb => ?_) (fun hb => ?_)))); all_goals (refine al_nil ?_; (simp only [go_sem, Nat.reduceLT, Nat.reduceLeDiff, Nat.reduceEqDiff, Nat.reduceAdd, Nat.reduceSub, Nat.reduceMul, Int.reduceToNat, Int.reduceLE, Int.reduceLT, ↓reduceIte, reduceCtorEq, Int.reduceBEq, Int.reduceBNe, Int.reduceGT, Int.reduceGE, decide_true, decide_false, List.length_map]); refine hK _ ?_; clear hK K))
  (refine awp_reg_seq [3, 4, 7, 8, 9, 10] fun K hK => ?_; (repeat' (first | ((first | refine al_run rfl rfl (by decide) fun K' hK' => ?_ | refine al_do rfl rfl fun K' hK' => ?_ | refine al_then rfl rfl rfl (by decide) fun K' hK' => ?_); (simp only [go_sem, Nat.reduceLT, Nat.reduceLeDiff, Nat.reduceEqDiff, Nat.reduceAdd, Nat.reduceSub, Nat.reduceMul, Int.reduceToNat, Int.reduceLE, Int.reduceLT, ↓reduceIte, reduceCtorEq, Int.reduceBEq, Int.reduceBNe, Int.reduceGT, Int.reduceGE, decide_true, decide_false, List.length_map]); (try ((first | refine AS.mk ?_ | refine AAp.grow ?_); (simp only [go_sem, Nat.reduceLT, Nat.reduceLeDiff, Nat.reduceEqDiff, Nat.reduceAdd, Nat.reduceSub, Nat.reduceMul, Int.reduceToNat, Int.reduceLE, Int.reduceLT, ↓reduceIte, reduceCtorEq, Int.reduceBEq, Int.reduceBNe, Int.reduceGT, Int.reduceGE, decide_true, decide_false, List.length_map]))); (first | ((first | refine hK' _ _ ?_ | refine ⟨?_, hK' _ _ ?_⟩ | refine ⟨?_, ?_, hK' _ _ ?_⟩ | refine ⟨?_, ?_, ?_, hK' _ _ ?_⟩) <;> clear hK' K' <;> (first | (show alist _ _ _ _ _ _; skip) | (intro s hs; cases hs; done) | assumption | (simp; done) | omega | (simp; omega) | skip)) | ((show AC _ _ (D.fn 9 _) _ _); refine acall_p (f := 9) (e := rfl) (hr := rfl) (k := hK' _ _ ?_) (hc := Try.call9) (h := hdown); clear hK' K') | ((show AC _ _ (D.fn 10 _) _ _); refine acall_p (f := 10) (e := rfl) (hr := rfl) (k := hK' _ _ ?_) (hc := Try.call10) (h := wards); clear hK' K') | ((show AC _ _ (D.fn 12 _) _ _); refine acall_p (f := 12) (e := rfl) (hr := rfl) (k := hK' _ _ ?_) (hc := Try.call12) (h := hf20); clear hK' K') | ((show AC _ _ (D.fn 21 _) _ _); refine acall_p (f := 21) (e := rfl) (hr := rfl) (k := hK' _ _ ?_) (hc := Try.call21) (h := hbeg); clear hK' K') | ((show AC _ _ (D.fn 22 _) _ _); refine acall_p (f := 22) (e := rfl) (hr := rfl) (k := hK' _ _ ?_) (hc := Try.call22) (h := heq); clear hK' K') | ((show AC _ _ (D.fn 23 _) _ _); refine acall_p (f := 23) (e := rfl) (hr := rfl) (k := hK' _ _ ?_) (hc := Try.call23) (h := hcon); clear hK' K') | ((show AC _ _ (D.fn 24 _) _ _); refine acall_p (f := 24) (e := rfl) (hr := rfl) (k := hK' _ _ ?_) (hc := Try.call24) (h := hchk); clear hK' K'))) | (refine al_else rfl rfl rfl (by decide) ?_) | (refine al_undef rfl rfl rfl (by decide) ?_) | ((fail_if_success (refine al_then rfl rfl rfl (by decide) fun K' hK' => ?_)); refine al_split _ rfl rfl rfl (fun hb => ?_) (fun hb => ?_)))); all_goals (refine al_nil ?_; (simp only [go_sem, Nat.reduceLT, Nat.reduceLeDiff, Nat.reduceEqDiff, Nat.reduceAdd, Nat.reduceSub, Nat.reduceMul, Int.reduceToNat, Int.reduceLE, Int.reduceLT, ↓reduceIte, reduceCtorEq, Int.reduceBEq, Int.reduceBNe, Int.reduceGT, Int.reduceGE, decide_true, decide_false, List.length_map]); refine hK _ ?_; clear hK K))
  (refine awp_frz [3, 4, 7, 8, 9, 10] [] (by decide) (by simp) ?_; simp only [go_sem, Nat.reduceLT, Nat.reduceLeDiff, Nat.reduceEqDiff, Nat.reduceAdd, Nat.reduceSub, Nat.reduceMul, Int.reduceToNat, Int.reduceLE, Int.reduceLT, ↓reduceIte, reduceCtorEq, Int.reduceBEq, Int.reduceBNe, Int.reduceGT, Int.reduceGE, decide_true, decide_false, List.length_map])
  refine awp_seq_k fun K hK => ?_
  refine awp_reg_tov [3, 4, 8, 9, 44] [(44, bD (e != 0 || decide (q < 0) || whenS w.children q))] (h := ?_) (k := ?_)
  · rcases hrange with ⟨hq1, _⟩ | ⟨i, x, hq1, hx, _⟩
    · subst hq1

      ((repeat' (first | ((first | refine al_run rfl rfl (by decide) fun K' hK' => ?_ | refine al_do rfl rfl fun K' hK' => ?_ | refine al_then rfl rfl rfl (by decide) fun K' hK' => ?_); (simp only [go_sem, Nat.reduceLT, Nat.reduceLeDiff, Nat.reduceEqDiff, Nat.reduceAdd, Nat.reduceSub, Nat.reduceMul, Int.reduceToNat, Int.reduceLE, Int.reduceLT, ↓reduceIte, reduceCtorEq, Int.reduceBEq, Int.reduceBNe, Int.reduceGT, Int.reduceGE, decide_true, decide_false, List.length_map, Int.reduceNeg]); (try ((first | refine AS.mk ?_ | refine AAp.grow ?_); (simp only [go_sem, Nat.reduceLT, Nat.reduceLeDiff, Nat.reduceEqDiff, Nat.reduceAdd, Nat.reduceSub, Nat.reduceMul, Int.reduceToNat, Int.reduceLE, Int.reduceLT, ↓reduceIte, reduceCtorEq, Int.reduceBEq, Int.reduceBNe, Int.reduceGT, Int.reduceGE, decide_true, decide_false, List.length_map, Int.reduceNeg]))); (first | ((first | refine hK' _ _ ?_ | refine ⟨?_, hK' _ _ ?_⟩ | refine ⟨?_, ?_, hK' _ _ ?_⟩ | refine ⟨?_, ?_, ?_, hK' _ _ ?_⟩) <;> clear hK' K' <;> (first | (show alist _ _ _ _ _ _; skip) | (intro s hs; cases hs; done) | assumption | (simp; done) | omega | (simp; omega) | skip)) | ((show AC _ _ (D.fn 9 _) _ _); refine acall_p (f := 9) (e := rfl) (hr := rfl) (k := hK' _ _ ?_) (hc := Try.call9) (h := hdown); clear hK' K') | ((show AC _ _ (D.fn 10 _) _ _); refine acall_p (f := 10) (e := rfl) (hr := rfl) (k := hK' _ _ ?_) (hc := Try.call10) (h := wards); clear hK' K') | ((show AC _ _ (D.fn 12 _) _ _); refine acall_p (f := 12) (e := rfl) (hr := rfl) (k := hK' _ _ ?_) (hc := Try.call12) (h := hf20); clear hK' K') | ((show AC _ _ (D.fn 21 _) _ _); refine acall_p (f := 21) (e := rfl) (hr := rfl) (k := hK' _ _ ?_) (hc := Try.call21) (h := hbeg); clear hK' K') | ((show AC _ _ (D.fn 22 _) _ _); refine acall_p (f := 22) (e := rfl) (hr := rfl) (k := hK' _ _ ?_) (hc := Try.call22) (h := heq); clear hK' K') | ((show AC _ _ (D.fn 23 _) _ _); refine acall_p (f := 23) (e := rfl) (hr := rfl) (k := hK' _ _ ?_) (hc := Try.call23) (h := hcon); clear hK' K') | ((show AC _ _ (D.fn 24 _) _ _); refine acall_p (f := 24) (e := rfl) (hr := rfl) (k := hK' _ _ ?_) (hc := Try.call24) (h := hchk); clear hK' K'))) | (refine al_else rfl rfl rfl (by decide) ?_) | (refine al_undef rfl rfl rfl (by decide) ?_) | ((fail_if_success (refine al_then rfl rfl rfl (by decide) fun K' hK' => ?_)); refine al_split _ rfl rfl rfl (fun hb => ?_) (fun hb => ?_)))); all_goals (refine al_nil ?_; (first | (simp only [go_sem, Nat.reduceLT, Nat.reduceLeDiff, Nat.reduceEqDiff, Nat.reduceAdd, Nat.reduceSub, Nat.reduceMul, Int.reduceToNat, Int.reduceLE, Int.reduceLT, ↓reduceIte, reduceCtorEq, Int.reduceBEq, Int.reduceBNe, Int.reduceGT, Int.reduceGE, decide_true, decide_false, List.length_map, Int.reduceNeg, *, Bool.and_true, Bool.and_false, Bool.true_and, Bool.false_and, Bool.or_true, Bool.true_or, Bool.or_false, Bool.false_or, Bool.not_true, Bool.not_false, Bool.false_eq_true]; done) | contradiction | (simp_all; done) | simp only [go_sem, Nat.reduceLT, Nat.reduceLeDiff, Nat.reduceEqDiff, Nat.reduceAdd, Nat.reduceSub, Nat.reduceMul, Int.reduceToNat, Int.reduceLE, Int.reduceLT, ↓reduceIte, reduceCtorEq, Int.reduceBEq, Int.reduceBNe, Int.reduceGT, Int.reduceGE, decide_true, decide_false, List.length_map, Int.reduceNeg, *, Bool.and_true, Bool.and_false, Bool.true_and, Bool.false_and, Bool.or_true, Bool.true_or, Bool.or_false, Bool.false_or, Bool.not_true, Bool.not_false, Bool.false_eq_true])))
    · subst hq1
      have hil := lt_of_get hx
      have hnn : (0 : Int) ≤ (i : Int) := Int.natCast_nonneg i
      have hil2 : (i : Int) < (w.children.length : Int) := by omega
      have hneg : decide ((i : Int) < 0) = false := by simp
      have hwh : whenS w.children (i : Int) = (x.when == 1) := by unfold whenS; rw [Int.toNat_natCast, hx]

      ((repeat' (first | ((first | refine al_run rfl rfl (by decide) fun K' hK' => ?_ | refine al_do rfl rfl fun K' hK' => ?_ | refine al_then rfl rfl rfl (by decide) fun K' hK' => ?_); (simp only [go_sem, Nat.reduceLT, Nat.reduceLeDiff, Nat.reduceEqDiff, Nat.reduceAdd, Nat.reduceSub, Nat.reduceMul, Int.reduceToNat, Int.reduceLE, Int.reduceLT, ↓reduceIte, reduceCtorEq, Int.reduceBEq, Int.reduceBNe, Int.reduceGT, Int.reduceGE, decide_true, decide_false, List.length_map, hx, hnn, hil2, Int.toNat_natCast, List.getElem?_map, Option.map_some, Child.row, hneg, hwh]); (try ((first | refine AS.mk ?_ | refine AAp.grow ?_); (simp only [go_sem, Nat.reduceLT, Nat.reduceLeDiff, Nat.reduceEqDiff, Nat.reduceAdd, Nat.reduceSub, Nat.reduceMul, Int.reduceToNat, Int.reduceLE, Int.reduceLT, ↓reduceIte, reduceCtorEq, Int.reduceBEq, Int.reduceBNe, Int.reduceGT, Int.reduceGE, decide_true, decide_false, List.length_map, hx, hnn, hil2, Int.toNat_natCast, List.getElem?_map, Option.map_some, Child.row, hneg, hwh]))); (first | ((first | refine hK' _ _ ?_ | refine ⟨?_, hK' _ _ ?_⟩ | refine ⟨?_, ?_, hK' _ _ ?_⟩ | refine ⟨?_, ?_, ?_, hK' _ _ ?_⟩) <;> clear hK' K' <;> (first | (show alist _ _ _ _ _ _; skip) | (intro s hs; cases hs; done) | assumption | (simp; done) | omega | (simp; omega) | skip)) | ((show AC _ _ (D.fn 9 _) _ _); refine acall_p (f := 9) (e := rfl) (hr := rfl) (k := hK' _ _ ?_) (hc := Try.call9) (h := hdown); clear hK' K') | ((show AC _ _ (D.fn 10 _) _ _); refine acall_p (f := 10) (e := rfl) (hr := rfl) (k := hK' _ _ ?_) (hc := Try.call10) (h := wards); clear hK' K') | ((show AC _ _ (D.fn 12 _) _ _); refine acall_p (f := 12) (e := rfl) (hr := rfl) (k := hK' _ _ ?_) (hc := Try.call12) (h := hf20); clear hK' K') | ((show AC _ _ (D.fn 21 _) _ _); refine acall_p (f := 21) (e := rfl) (hr := rfl) (k := hK' _ _ ?_) (hc := Try.call21) (h := hbeg); clear hK' K') | ((show AC _ _ (D.fn 22 _) _ _); refine acall_p (f := 22) (e := rfl) (hr := rfl) (k := hK' _ _ ?_) (hc := Try.call22) (h := heq); clear hK' K') | ((show AC _ _ (D.fn 23 _) _ _); refine acall_p (f := 23) (e := rfl) (hr := rfl) (k := hK' _ _ ?_) (hc := Try.call23) (h := hcon); clear hK' K') | ((show AC _ _ (D.fn 24 _) _ _); refine acall_p (f := 24) (e := rfl) (hr := rfl) (k := hK' _ _ ?_) (hc := Try.call24) (h := hchk); clear hK' K'))) | (refine al_else rfl rfl rfl (by decide) ?_) | (refine al_undef rfl rfl rfl (by decide) ?_) | ((fail_if_success (refine al_then rfl rfl rfl (by decide) fun K' hK' => ?_)); refine al_split _ rfl rfl rfl (fun hb => ?_) (fun hb => ?_)))); all_goals (refine al_nil ?_; (first | (simp only [go_sem, Nat.reduceLT, Nat.reduceLeDiff, Nat.reduceEqDiff, Nat.reduceAdd, Nat.reduceSub, Nat.reduceMul, Int.reduceToNat, Int.reduceLE, Int.reduceLT, ↓reduceIte, reduceCtorEq, Int.reduceBEq, Int.reduceBNe, Int.reduceGT, Int.reduceGE, decide_true, decide_false, List.length_map, hx, hnn, hil2, Int.toNat_natCast, List.getElem?_map, Option.map_some, Child.row, hneg, hwh, *, Bool.and_true, Bool.and_false, Bool.true_and, Bool.false_and, Bool.or_true, Bool.true_or, Bool.or_false, Bool.false_or, Bool.not_true, Bool.not_false, Bool.false_eq_true]; done) | contradiction | (simp_all; done) | simp only [go_sem, Nat.reduceLT, Nat.reduceLeDiff, Nat.reduceEqDiff, Nat.reduceAdd, Nat.reduceSub, Nat.reduceMul, Int.reduceToNat, Int.reduceLE, Int.reduceLT, ↓reduceIte, reduceCtorEq, Int.reduceBEq, Int.reduceBNe, Int.reduceGT, Int.reduceGE, decide_true, decide_false, List.length_map, hx, hnn, hil2, Int.toNat_natCast, List.getElem?_map, Option.map_some, Child.row, hneg, hwh, *, Bool.and_true, Bool.and_false, Bool.true_and, Bool.false_and, Bool.or_true, Bool.true_or, Bool.or_false, Bool.false_or, Bool.not_true, Bool.not_false, Bool.false_eq_true])))

  (intro K hK; (simp only [go_sem, Nat.reduceLT, Nat.reduceLeDiff, Nat.reduceEqDiff, Nat.reduceAdd, Nat.reduceSub, Nat.reduceMul, Int.reduceToNat, Int.reduceLE, Int.reduceLT, ↓reduceIte, reduceCtorEq, Int.reduceBEq, Int.reduceBNe, Int.reduceGT, Int.reduceGE, decide_true, decide_false, List.length_map]); refine hK _ ?_; clear hK K)
  refine awp_if (e != 0 || decide (q < 0) || whenS w.children q) rfl (fun hc => ?_) (fun hc => ?_)
  · (refine awp_reg_seq [6] fun K hK => ?_; (repeat' (first | ((first | refine al_run rfl rfl (by decide) fun K' hK' => ?_ | refine al_do rfl rfl fun K' hK' => ?_ | refine al_then rfl rfl rfl (by decide) fun K' hK' => ?_); (simp only [go_sem, Nat.reduceLT, Nat.reduceLeDiff, Nat.reduceEqDiff, Nat.reduceAdd, Nat.reduceSub, Nat.reduceMul, Int.reduceToNat, Int.reduceLE, Int.reduceLT, ↓reduceIte, reduceCtorEq, Int.reduceBEq, Int.reduceBNe, Int.reduceGT, Int.reduceGE, decide_true, decide_false, List.length_map]); (try ((first | refine AS.mk ?_ | refine AAp.grow ?_); (simp only [go_sem, Nat.reduceLT, Nat.reduceLeDiff, Nat.reduceEqDiff, Nat.reduceAdd, Nat.reduceSub, Nat.reduceMul, Int.reduceToNat, Int.reduceLE, Int.reduceLT, ↓reduceIte, reduceCtorEq, Int.reduceBEq, Int.reduceBNe, Int.reduceGT, Int.reduceGE, decide_true, decide_false, List.length_map]))); (first | ((first | refine hK' _ _ ?_ | refine ⟨?_, hK' _ _ ?_⟩ | refine ⟨?_, ?_, hK' _ _ ?_⟩ | refine ⟨?_, ?_, ?_, hK' _ _ ?_⟩) <;> clear hK' K' <;> (first | (show alist _ _ _ _ _ _; skip) | (intro s hs; cases hs; done) | assumption | (simp; done) | omega | (simp; omega) | skip)) | ((show AC _ _ (D.fn 9 _) _ _); refine acall_p (f := 9) (e := rfl) (hr := rfl) (k := hK' _ _ ?_) (hc := Try.call9) (h := hdown); clear hK' K') | ((show AC _ _ (D.fn 10 _) _ _); refine acall_p (f := 10) (e := rfl) (hr := rfl) (k := hK' _ _ ?_) (hc := Try.call10) (h := wards); clear hK' K') | ((show AC _ _ (D.fn 12 _) _ _); refine acall_p (f := 12) (e := rfl) (hr := rfl) (k := hK' _ _ ?_) (hc := Try.call12) (h := hf20); clear hK' K') | ((show AC _ _ (D.fn 21 _) _ _); refine acall_p (f := 21) (e := rfl) (hr := rfl) (k := hK' _ _ ?_) (hc := Try.call21) (h := hbeg); clear hK' K') | ((show AC _ _ (D.fn 22 _) _ _); refine acall_p (f := 22) (e := rfl) (hr := rfl) (k := hK' _ _ ?_) (hc := Try.call22) (h := heq); clear hK' K') | ((show AC _ _ (D.fn 23 _) _ _); refine acall_p (f := 23) (e := rfl) (hr := rfl) (k := hK' _ _ ?_) (hc := Try.call23) (h := hcon); clear hK' K') | ((show AC _ _ (D.fn 24 _) _ _); refine acall_p (f := 24) (e := rfl) (hr := rfl) (k := hK' _ _ ?_) (hc := Try.call24) (h := hchk); clear hK' K'))) | (refine al_else rfl rfl rfl (by decide) ?_) | (refine al_undef rfl rfl rfl (by decide) ?_) | ((fail_if_success (refine al_then rfl rfl rfl (by decide) fun K' hK' => ?_)); refine al_split _ rfl rfl rfl (fun hb => ?_) (fun hb => ?_)))); all_goals (refine al_nil ?_; (simp only [go_sem, Nat.reduceLT, Nat.reduceLeDiff, Nat.reduceEqDiff, Nat.reduceAdd, Nat.reduceSub, Nat.reduceMul, Int.reduceToNat, Int.reduceLE, Int.reduceLT, ↓reduceIte, reduceCtorEq, Int.reduceBEq, Int.reduceBNe, Int.reduceGT, Int.reduceGE, decide_true, decide_false, List.length_map]); refine hK _ ?_; clear hK K))
    all_goals (refine awp_ret ?_; (first | refine hR _ _ (.inl rfl) rfl ?_ | refine hR _ _ (.inl rfl) rfl ?_ ?_); (first | (simp only [go_sem, Nat.reduceLT, Nat.reduceLeDiff, Nat.reduceEqDiff, Nat.reduceAdd, Nat.reduceSub, Nat.reduceMul, Int.reduceToNat, Int.reduceLE, Int.reduceLT, ↓reduceIte, reduceCtorEq, Int.reduceBEq, Int.reduceBNe, Int.reduceGT, Int.reduceGE, decide_true, decide_false, List.length_map, *, Bool.and_true, Bool.and_false, Bool.true_and, Bool.false_and, Bool.or_true, Bool.true_or, Bool.or_false, Bool.false_or, Bool.not_true, Bool.not_false, Bool.false_eq_true]; done) | contradiction | (simp_all; done) | simp only [go_sem, Nat.reduceLT, Nat.reduceLeDiff, Nat.reduceEqDiff, Nat.reduceAdd, Nat.reduceSub, Nat.reduceMul, Int.reduceToNat, Int.reduceLE, Int.reduceLT, ↓reduceIte, reduceCtorEq, Int.reduceBEq, Int.reduceBNe, Int.reduceGT, Int.reduceGE, decide_true, decide_false, List.length_map, *, Bool.and_true, Bool.and_false, Bool.true_and, Bool.false_and, Bool.or_true, Bool.true_or, Bool.or_false, Bool.false_or, Bool.not_true, Bool.not_false, Bool.false_eq_true]))
  · simp only [Bool.or_eq_false_iff] at hc
    obtain ⟨⟨hc1, hc2⟩, hc3⟩ := hc
    have he : e = 0 := by simpa using hc1
    obtain ⟨f1, f2, f3, f4, f5, f6, f7⟩ := f he hc3
    clear hdown hf20 f hrange
    refine awp_skip ?_
    refine hK _ ?_; clear hK K
    (refine awp_reg_seq [3, 4, 8, 9, 11, 12, 13] fun K hK => ?_; (repeat' (first | ((first | refine al_run rfl rfl (by decide) fun K' hK' => ?_ | refine al_do rfl rfl fun K' hK' => ?_ | refine al_then rfl rfl rfl (by decide) fun K' hK' => ?_); (simp only [go_sem, Nat.reduceLT, Nat.reduceLeDiff, Nat.reduceEqDiff, Nat.reduceAdd, Nat.reduceSub, Nat.reduceMul, Int.reduceToNat, Int.reduceLE, Int.reduceLT, ↓reduceIte, reduceCtorEq, Int.reduceBEq, Int.reduceBNe, Int.reduceGT, Int.reduceGE, decide_true, decide_false, List.length_map]); (try ((first | refine AS.mk ?_ | refine AAp.grow ?_); (simp only [go_sem, Nat.reduceLT, Nat.reduceLeDiff, Nat.reduceEqDiff, Nat.reduceAdd, Nat.reduceSub, Nat.reduceMul, Int.reduceToNat, Int.reduceLE, Int.reduceLT, ↓reduceIte, reduceCtorEq, Int.reduceBEq, Int.reduceBNe, Int.reduceGT, Int.reduceGE, decide_true, decide_false, List.length_map]))); (first | ((first | refine hK' _ _ ?_ | refine ⟨?_, hK' _ _ ?_⟩ | refine ⟨?_, ?_, hK' _ _ ?_⟩ | refine ⟨?_, ?_, ?_, hK' _ _ ?_⟩) <;> clear hK' K' <;> (first | (show alist _ _ _ _ _ _; skip) | (intro s hs; cases hs; done) | assumption | (simp; done) | omega | (simp; omega) | skip)) | ((show AC _ _ (D.fn 9 _) _ _); refine acall_p (f := 9) (e := rfl) (hr := rfl) (k := hK' _ _ ?_) (hc := Try.call9) (h := hdown); clear hK' K') | ((show AC _ _ (D.fn 10 _) _ _); refine acall_p (f := 10) (e := rfl) (hr := rfl) (k := hK' _ _ ?_) (hc := Try.call10) (h := wards); clear hK' K') | ((show AC _ _ (D.fn 12 _) _ _); refine acall_p (f := 12) (e := rfl) (hr := rfl) (k := hK' _ _ ?_) (hc := Try.call12) (h := hf20); clear hK' K') | ((show AC _ _ (D.fn 21 _) _ _); refine acall_p (f := 21) (e := rfl) (hr := rfl) (k := hK' _ _ ?_) (hc := Try.call21) (h := hbeg); clear hK' K') | ((show AC _ _ (D.fn 22 _) _ _); refine acall_p (f := 22) (e := rfl) (hr := rfl) (k := hK' _ _ ?_) (hc := Try.call22) (h := heq); clear hK' K') | ((show AC _ _ (D.fn 23 _) _ _); refine acall_p (f := 23) (e := rfl) (hr := rfl) (k := hK' _ _ ?_) (hc := Try.call23) (h := hcon); clear hK' K') | ((show AC _ _ (D.fn 24 _) _ _); refine acall_p (f := 24) (e := rfl) (hr := rfl) (k := hK' _ _ ?_) (hc := Try.call24) (h := hchk); clear hK' K'))) | (refine al_else rfl rfl rfl (by decide) ?_) | (refine al_undef rfl rfl rfl (by decide) ?_) | ((fail_if_success (refine al_then rfl rfl rfl (by decide) fun K' hK' => ?_)); refine al_split _ rfl rfl rfl (fun hb => ?_) (fun hb => ?_)))); all_goals (refine al_nil ?_; (simp only [go_sem, Nat.reduceLT, Nat.reduceLeDiff, Nat.reduceEqDiff, Nat.reduceAdd, Nat.reduceSub, Nat.reduceMul, Int.reduceToNat, Int.reduceLE, Int.reduceLT, ↓reduceIte, reduceCtorEq, Int.reduceBEq, Int.reduceBNe, Int.reduceGT, Int.reduceGE, decide_true, decide_false, List.length_map]); refine hK _ ?_; clear hK K))
    (refine awp_frz [3, 4, 8, 9, 11, 12, 13] [] (by decide) (by simp) ?_; simp only [go_sem, Nat.reduceLT, Nat.reduceLeDiff, Nat.reduceEqDiff, Nat.reduceAdd, Nat.reduceSub, Nat.reduceMul, Int.reduceToNat, Int.reduceLE, Int.reduceLT, ↓reduceIte, reduceCtorEq, Int.reduceBEq, Int.reduceBNe, Int.reduceGT, Int.reduceGE, decide_true, decide_false, List.length_map])
    have hw0 : IntKind.i64.wrap 0 = 0 := by rw [wrap_small (by omega) (by omega)]

    (refine awp_reg_tov [6] [(6, bD true)] (h := ?_) (k := ?_); · ((repeat' (first | ((first | refine al_run rfl rfl (by decide) fun K' hK' => ?_ | refine al_do rfl rfl fun K' hK' => ?_ | refine al_then rfl rfl rfl (by decide) fun K' hK' => ?_); (simp only [go_sem, Nat.reduceLT, Nat.reduceLeDiff, Nat.reduceEqDiff, Nat.reduceAdd, Nat.reduceSub, Nat.reduceMul, Int.reduceToNat, Int.reduceLE, Int.reduceLT, ↓reduceIte, reduceCtorEq, Int.reduceBEq, Int.reduceBNe, Int.reduceGT, Int.reduceGE, decide_true, decide_false, List.length_map, f1, f2, f3, f4, f5, f6, f7, List.length_nil, List.map_nil, cast0, Int.reduceAdd, beq_self_eq_true, hw0]); (try ((first | refine AS.mk ?_ | refine AAp.grow ?_); (simp only [go_sem, Nat.reduceLT, Nat.reduceLeDiff, Nat.reduceEqDiff, Nat.reduceAdd, Nat.reduceSub, Nat.reduceMul, Int.reduceToNat, Int.reduceLE, Int.reduceLT, ↓reduceIte, reduceCtorEq, Int.reduceBEq, Int.reduceBNe, Int.reduceGT, Int.reduceGE, decide_true, decide_false, List.length_map, f1, f2, f3, f4, f5, f6, f7, List.length_nil, List.map_nil, cast0, Int.reduceAdd, beq_self_eq_true, hw0]))); (first | ((first | refine hK' _ _ ?_ | refine ⟨?_, hK' _ _ ?_⟩ | refine ⟨?_, ?_, hK' _ _ ?_⟩ | refine ⟨?_, ?_, ?_, hK' _ _ ?_⟩) <;> clear hK' K' <;> (first | (show alist _ _ _ _ _ _; skip) | (intro s hs; cases hs; done) | assumption | (simp; done) | omega | (simp; omega) | skip)) | ((show AC _ _ (D.fn 9 _) _ _); refine acall_p (f := 9) (e := rfl) (hr := rfl) (k := hK' _ _ ?_) (hc := Try.call9) (h := hdown); clear hK' K') | ((show AC _ _ (D.fn 10 _) _ _); refine acall_p (f := 10) (e := rfl) (hr := rfl) (k := hK' _ _ ?_) (hc := Try.call10) (h := wards); clear hK' K') | ((show AC _ _ (D.fn 12 _) _ _); refine acall_p (f := 12) (e := rfl) (hr := rfl) (k := hK' _ _ ?_) (hc := Try.call12) (h := hf20); clear hK' K') | ((show AC _ _ (D.fn 21 _) _ _); refine acall_p (f := 21) (e := rfl) (hr := rfl) (k := hK' _ _ ?_) (hc := Try.call21) (h := hbeg); clear hK' K') | ((show AC _ _ (D.fn 22 _) _ _); refine acall_p (f := 22) (e := rfl) (hr := rfl) (k := hK' _ _ ?_) (hc := Try.call22) (h := heq); clear hK' K') | ((show AC _ _ (D.fn 23 _) _ _); refine acall_p (f := 23) (e := rfl) (hr := rfl) (k := hK' _ _ ?_) (hc := Try.call23) (h := hcon); clear hK' K') | ((show AC _ _ (D.fn 24 _) _ _); refine acall_p (f := 24) (e := rfl) (hr := rfl) (k := hK' _ _ ?_) (hc := Try.call24) (h := hchk); clear hK' K'))) | (refine al_else rfl rfl rfl (by decide) ?_) | (refine al_undef rfl rfl rfl (by decide) ?_) | ((fail_if_success (refine al_then rfl rfl rfl (by decide) fun K' hK' => ?_)); refine al_split _ rfl rfl rfl (fun hb => ?_) (fun hb => ?_)))); all_goals (refine al_nil ?_; simp only [go_sem, Nat.reduceLT, Nat.reduceLeDiff, Nat.reduceEqDiff, Nat.reduceAdd, Nat.reduceSub, Nat.reduceMul, Int.reduceToNat, Int.reduceLE, Int.reduceLT, ↓reduceIte, reduceCtorEq, Int.reduceBEq, Int.reduceBNe, Int.reduceGT, Int.reduceGE, decide_true, decide_false, List.length_map, f1, f2, f3, f4, f5, f6, f7, List.length_nil, List.map_nil, cast0, Int.reduceAdd, beq_self_eq_true, hw0, *, Bool.and_true, Bool.and_false, Bool.true_and, Bool.false_and, Bool.or_true, Bool.true_or, Bool.or_false, Bool.false_or, Bool.not_true, Bool.not_false, Bool.false_eq_true]))); intro K hK; (simp only [go_sem, Nat.reduceLT, Nat.reduceLeDiff, Nat.reduceEqDiff, Nat.reduceAdd, Nat.reduceSub, Nat.reduceMul, Int.reduceToNat, Int.reduceLE, Int.reduceLT, ↓reduceIte, reduceCtorEq, Int.reduceBEq, Int.reduceBNe, Int.reduceGT, Int.reduceGE, decide_true, decide_false, List.length_map, f1, f2, f3, f4, f5, f6, f7, List.length_nil, List.map_nil, cast0, Int.reduceAdd, beq_self_eq_true, hw0]); refine hK _ ?_; clear hK K
    all_goals (refine awp_ret ?_; (first | refine hR _ _ (.inl rfl) rfl ?_ | refine hR _ _ (.inl rfl) rfl ?_ ?_); (first | (simp only [go_sem, Nat.reduceLT, Nat.reduceLeDiff, Nat.reduceEqDiff, Nat.reduceAdd, Nat.reduceSub, Nat.reduceMul, Int.reduceToNat, Int.reduceLE, Int.reduceLT, ↓reduceIte, reduceCtorEq, Int.reduceBEq, Int.reduceBNe, Int.reduceGT, Int.reduceGE, decide_true, decide_false, List.length_map, f1, f2, f3, f4, f5, f6, f7, List.length_nil, List.map_nil, cast0, Int.reduceAdd, beq_self_eq_true, hw0, *, Bool.and_true, Bool.and_false, Bool.true_and, Bool.false_and, Bool.or_true, Bool.true_or, Bool.or_false, Bool.false_or, Bool.not_true, Bool.not_false, Bool.false_eq_true]; done) | contradiction | (simp_all; done) | simp only [go_sem, Nat.reduceLT, Nat.reduceLeDiff, Nat.reduceEqDiff, Nat.reduceAdd, Nat.reduceSub, Nat.reduceMul, Int.reduceToNat, Int.reduceLE, Int.reduceLT, ↓reduceIte, reduceCtorEq, Int.reduceBEq, Int.reduceBNe, Int.reduceGT, Int.reduceGE, decide_true, decide_false, List.length_map, f1, f2, f3, f4, f5, f6, f7, List.length_nil, List.map_nil, cast0, Int.reduceAdd, beq_self_eq_true, hw0, *, Bool.and_true, Bool.and_false, Bool.true_and, Bool.false_and, Bool.or_true, Bool.true_or, Bool.or_false, Bool.false_or, Bool.not_true, Bool.not_false, Bool.false_eq_true]))
theorem down_lens {w : Ward} (id : Int) (failed : Bool) (now : Int) (h1 : w.children.length ≤ maxLen) (h2 : w.times.length ≤ maxLen) : (downS w id failed now).1.children.length ≤ maxLen ∧ (downS w id failed now).1.times.length ≤ maxLen := by
  obtain ⟨hk1, hk2⟩ := down_kids w id failed now
  refine ⟨by omega, ?_⟩
  by_cases h0 : wcheckS w = 0
  · have := (wcheck_ok h0).2.2.1
    exact Nat.le_trans hk2 (Nat.le_trans (Nat.add_le_add_right this 1) (by decide))
  · have : (downS w id failed now).1 = zW := by
      unfold downS
      rw [if_pos (by simpa using h0)]
    rw [this]
    exact Nat.zero_le _

theorem begin_lens {w : Ward} (h1 : w.children.length ≤ maxLen) (h2 : w.times.length ≤ maxLen) : (beginS w).1.children.length ≤ maxLen ∧ (beginS w).1.times.length ≤ maxLen := by
  unfold beginS
  split
  · exact ⟨Nat.zero_le _, Nat.zero_le _⟩
  · exact ⟨by simpa using h1, h2⟩

theorem calmTrue (w : Ward) (id now : Int) (h1 : w.children.length ≤ maxLen) (h2 : w.times.length ≤ maxLen) : ACallP Try.prog 7 [wardD w, iD id, iD now] (bD true) := by
  obtain ⟨hk1, hk2⟩ := down_lens id false now h1 h2
  have hb := begin_len (downS w id false now).1
  have hb2 := begin_lens hk1 hk2
  exact calmLaw w _ _ _ _ id now _ _ _ h1 h2 (by omega) (down w id false now h1 h2) (start _ hk1 hk2) (wcheck _ hb2.1 hb2.2) (fun h hw => calm_pure h hw)
end Go.Proofs.Ytonfjlbklmcpoaa.P
