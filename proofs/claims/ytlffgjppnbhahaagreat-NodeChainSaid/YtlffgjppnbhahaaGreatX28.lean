/- The rule for loops that collect keys is right. No program is named here. -/
import Derived.Test.YtlffgjppnbhahaaGreatX27
set_option linter.unusedSimpArgs false
set_option linter.unusedVariables false
set_option maxHeartbeats 1000000
namespace Go.Cx
open Go.ChangeMaps (setBlock)
open Go.MapKept (run_getObj_map heap_set)

def stamp (es : List ME) (i : Nat) : Nat := ((es[i]?).map fun e => e.b).getD 0

section
variable {P : Program} {call : Callee} {draw : List Oper → St → R St} {fuel to : Nat} {ρ : Nat → Int} {nt : Nat} {s : St} {loc : Lc} {w0 w : World} {h : Hd} {itid m : Nat} {es : List ME} {clock : Nat} {pr : List Bool} {ks : List Int}

/-- The iterator goes on. -/
theorem LW.turn (C : Ctx P call draw fuel to ρ nt s loc w0 h itid m es clock pr ks) {seen seen' : List Nat} {zs : List Int} {ov iv : Value} (L : LW ρ s loc w0 itid m clock seen w zs ov iv) {pit mq : Pl} (i1 : loc itid = some pit) (i2 : loc m = some mq)
    {w1 : World} (hw1 : w1 = w ∨ w1 = w.drew) : LW ρ s loc w0 itid m clock seen' (setBlock w1 pit.b (.mapIter (some mq.b) clock seen'.toArray clock)) zs ov iv := by
  obtain ⟨pit', mq', j1, j2, j3, j4⟩ := L.it
  rw [i1] at j1; cases j1
  rw [i2] at j2; cases j2
  have hh : w1.heap = w.heap ∧ w1.os = w.os ∧ w1.tape = w.tape ∧ w1.output = w.output := by
    rcases hw1 with rfl | rfl <;> exact ⟨rfl, rfl, rfl, rfl⟩
  obtain ⟨k1, k2, k3, k4⟩ := hh
  have hit : w1.heap[pit.b]? = some (.mapIter (some mq.b) clock seen.toArray clock) := by rw [k1]; exact j3
  obtain ⟨g1, g2⟩ := heap_set (w := w1) (o' := .mapIter (some mq.b) clock seen'.toArray clock) hit
  have hlt := C.lt0 C.hit i1
  have keep : ∀ b, b ≠ pit.b → (setBlock w1 pit.b (.mapIter (some mq.b) clock seen'.toArray clock)).heap[b]? = w.heap[b]? := fun b hb => by
    show (w1.heap.setIfInBounds _ _)[b]? = _
    rw [g2 b hb, k1]
  refine ⟨⟨⟨fun j o hj => ?_, L.st.mem.inj⟩, Nat.le_refl _, fun _ _ => rfl, ⟨k2.trans L.st.fr.os, k3.trans L.st.fr.tape, k4.trans L.st.fr.output, ?_, fun b hb hn => ?_, L.st.fr.own⟩⟩, ⟨pit, mq, i1, i2, g1, j4⟩, ?_⟩
  · obtain ⟨p, hp, hho⟩ := L.st.mem.sat j o hj
    refine ⟨p, hp, hho.mono (.refl _) (keep _ fun e => ?_)⟩
    obtain ⟨h1, h2⟩ := hB_sub hj
    exact h2 (C.mem.inj _ _ _ _ _ _ h1 C.hit hp i1 e)
  · show _ ≤ (w1.heap.setIfInBounds _ _).size
    rw [Array.size_setIfInBounds, k1]
    exact L.st.fr.size
  · rw [keep b fun e => hn ⟨itid, _, pit, C.hit, i1, e.symm⟩]
    exact L.st.fr.kept b hb hn
  · rcases L.out with o | ⟨z0, pl, p1, p2, p3, p4⟩
    · exact .inl o
    · refine .inr ⟨z0, pl, p1, ?_, p3, p4.mono (.refl _) (keep _ fun e => by omega)⟩
      show _ < (w1.heap.setIfInBounds _ _).size
      rw [Array.size_setIfInBounds, k1]
      exact p2

theorem dst_lt {nt : Nat} {l : List Oper} (h : dstO nt l = true) {o : Oper} (ho : o ∈ l) {d : Tmp} (hd : o.dst = some d) : d < nt := by
  have := List.all_eq_true.1 h o ho
  rw [hd] at this
  exact Nat.le_of_ble_eq_true this

theorem rounds_ok (hC : ∀ ρ, CallOk P ρ call) (hD : ∀ ρ nt, DrawOk P ρ nt draw) (C : Ctx P call draw fuel to ρ nt s loc w0 h itid m es clock pr ks) : ∀ (n : Nat) (vs left : List Nat) (a : Act) (w : World) (ov iv : Value), left.length = n → (vs ++ left).Perm (List.range pr.length) →
    LW ρ s loc w0 itid m clock (vs.map (stamp es)) w (got pr ks vs) ov iv → a.tmps.getD h.ti undef = iv → a.tmps.getD to undef = ov → ActOk nt a → ∀ (Q : Exit → Act → World → Prop),
    (∀ vs' a' w' ov' iv', vs'.Perm (List.range pr.length) → LW ρ s loc w0 itid m clock (vs'.map (stamp es)) w' (got pr ks vs') ov' iv' → a'.tmps.getD to undef = ov' → ActOk nt a' → Q (.exit h.x) a' w') → Code.rounds P h.code Q (n + 1) a w := by
  have hdst := C.dst
  simp only [Hd.code, dstC, Bool.and_eq_true] at hdst
  obtain ⟨dd3, ⟨_, _⟩, dd4, dr⟩ := hdst
  rw [C.ok.ops3] at dd3
  have hd1 : h.d1 < nt := dst_lt dd3 (List.mem_cons_self) C.ok.op1.2.1
  have hd2 : h.d2 < nt := dst_lt dd3 (List.mem_cons_of_mem _ (List.mem_cons_self)) C.ok.op2.2.1
  have hd3 : h.d3 < nt := dst_lt dd4 (by rw [C.ok.ops4]; exact List.mem_cons_self) C.ok.op3.2.1
  intro n
  induction n with
  | zero | succ n =>
    first
    | (rename_i ih; skip)
    | skip
    intro vs left a w ov iv hlen hperm L t1 t2 ha Q hQ
    obtain ⟨pit, mq, i1, i2, i3, i4⟩ := L.it
    -- the map, as it lies
    have hmne : m ≠ itid := fun e => by
      have := C.hmap
      rw [e, C.hit] at this; cases this
    have hBm : hB s itid m = some (.map es clock) := by unfold hB; rw [if_neg hmne]; exact C.hmap
    obtain ⟨mq', g1, g2⟩ := L.st.mem.sat _ _ hBm
    rw [i2] at g1; cases g1
    obtain ⟨ar, har, hel⟩ := g2.el
    have hall := EL.iff.1 hel
    have hplen : pr.length = es.length := C.prl
    have hvlt : ∀ i, i ∈ vs → i < es.length := fun i hi => by
      have := hperm.subset (List.mem_append_left _ hi)
      rw [List.mem_range] at this
      omega
    have hllt : ∀ i, i ∈ left → i < es.length := fun i hi => by
      have := hperm.subset (List.mem_append_right _ hi)
      rw [List.mem_range] at this
      omega
    have hnd : (vs ++ left).Nodup := hperm.symm.nodup List.nodup_range
    have hborn : ∀ x, x ∈ ar.toList → x.born < clock := fun x hx => by
      obtain ⟨i, hi⟩ := List.getElem?_of_mem hx
      have hil : i < es.length := by
        have := (List.getElem?_eq_some_iff.1 hi).1
        have := hall.1
        omega
      obtain ⟨y, hy, _, _, hb⟩ := hall.2 i es[i] (List.getElem?_eq_getElem hil)
      rw [hi] at hy; cases hy
      rw [hb]
      exact C.born _ (List.getElem_mem hil)
    have hnext := Go.run_next_at (P := P) w h.o1.type pit.b mq.b clock clock (vs.map (stamp es)).toArray ar clock i3 har hborn (Nat.le_refl _)
    have hrun1 : ∀ {v : Value} {w' : World}, (Instr.next (.pointer (some ⟨pit.b, 0, none⟩)) false h.o1.type).run P w = .ok v w' → (execOp a.eval h.o1).run P w = .ok (.value v) w' := fun hv => by
      simp only [execOp, C.ok.op1.1]
      rw [run_val]
      have : a.eval (.tmp h.ti) = .pointer (some ⟨pit.b, 0, none⟩) := by rw [← i4]; exact t1
      rw [this, hv]
      rfl
    have hcont : ∀ b : Nat, (vs.map (stamp es)).toArray.contains b = (vs.map (stamp es)).contains b := fun b => by simp
    rw [rounds_succ]
    unfold Hd.code
    refine wp_seq (wp_region_list ?_)
    rw [C.ok.ops3]
    unfold wpList
    rw [if_pos (by simp [Region.wanted, C.ok.op1.2.2])]
    refine .inl ?_
    unfold Oper.wp
    rcases hnext with ⟨hz, hr⟩ | ⟨y, hy, w1, hw1, hr⟩
    · -- all have been visited
      rw [hrun1 hr, Oper.upon_value]
      have hleft : left = [] := by
        cases left with
        | nil => rfl
        | cons i left =>
          exfalso
          have hil := hllt i (.head _)
          obtain ⟨y, hy, _, _, hb⟩ := hall.2 i es[i] (List.getElem?_eq_getElem hil)
          have hni : i ∉ vs := fun hv => by
            have := List.nodup_append.1 hnd
            exact this.2.2 i hv i (.head _) rfl
          have hmem : y ∈ leftOf ar (vs.map (stamp es)).toArray := by
            unfold leftOf
            rw [Array.mem_filter]
            refine ⟨by rw [← Array.mem_toList_iff]; exact List.mem_of_getElem? hy, ?_⟩
            rw [hcont]
            cases hc : (vs.map (stamp es)).contains y.born with
            | false => rfl
            | true => exact (hni ((stamp_mem hel C.nodup hvlt hy).1 hc)).elim
          have := Array.eq_empty_of_size_eq_zero hz
          rw [this] at hmem
          simp at hmem
      subst hleft
      rw [C.ok.op1.2.1]
      unfold wpList
      rw [if_pos (by simp [Region.wanted, C.ok.op2.2.2])]
      refine .inl ?_
      have ha1 : ActOk nt (a.put (some h.d1) (.tuple #[.bool false])) := ha.put _ _
      have hx : (execOp (a.put (some h.d1) (.tuple #[.bool false])).eval h.o2).run P w = .ok (.value (.bool false)) w := by
        simp only [execOp, C.ok.op2.1]
        have : (a.put (some h.d1) (.tuple #[.bool false])).eval (.tmp h.d1) = .tuple #[.bool false] := by
          show (a.put (some h.d1) _).tmps.getD h.d1 undef = _
          rw [put_get a h.d1 _ (by rw [ha.size]; exact hd1), if_pos rfl]
        rw [this]
        rfl
      unfold Oper.wp
      rw [hx, Oper.upon_value, C.ok.op2.2.1]
      unfold wpList
      have ha2 := ha1.put (some h.d2) (.bool false)
      refine wp_seq (wp_cond_false (by
        rw [C.ok.c]
        show ((a.put (some h.d1) (.tuple #[.bool false])).put (some h.d2) (.bool false)).tmps.getD h.d2 undef = _
        rw [put_get _ h.d2 _ (by rw [ha1.size]; exact hd2), if_pos rfl]) (wp_exit ?_))
      refine hQ vs _ w ov iv (by simpa using hperm) L ?_ ha2
      rw [put_get _ h.d2 _ (by rw [ha1.size]; exact hd2), if_neg (fun e => C.ne6 e.symm), put_get _ h.d1 _ (by rw [ha.size]; exact hd1), if_neg (fun e => C.ne5 e.symm)]
      exact t2
    · -- one comes
      rw [hrun1 hr, Oper.upon_value]
      have hy1 : y ∈ leftOf ar (vs.map (stamp es)).toArray := Array.mem_toList_iff.1 hy
      unfold leftOf at hy1
      rw [Array.mem_filter] at hy1
      obtain ⟨hy2, hy3⟩ := hy1
      rw [hcont] at hy3
      obtain ⟨i, hi⟩ := List.getElem?_of_mem (Array.mem_toList_iff.2 hy2)
      have hil : i < es.length := by
        have := (List.getElem?_eq_some_iff.1 hi).1
        have := hall.1
        omega
      have hni : i ∉ vs := fun hv => by
        have := (stamp_mem hel C.nodup hvlt hi).2 hv
        unfold stamp at hy3
        rw [this] at hy3
        cases hy3
      have hile : i ∈ left := by
        have : i ∈ vs ++ left := hperm.symm.subset (List.mem_range.2 (by omega))
        rcases List.mem_append.1 this with g | g
        · exact (hni g).elim
        · exact g
      have he : es[i]? = some es[i] := List.getElem?_eq_getElem hil
      obtain ⟨y', hy', _, _, hb⟩ := hall.2 i es[i] he
      rw [hi] at hy'; cases hy'
      -- what is left after it
      have hstamp : stamp es i = y.born := by unfold stamp; rw [he]; exact hb.symm
      have hpush : (vs.map (stamp es)).toArray.push y.born = ((vs ++ [i]).map (stamp es)).toArray := by
        rw [List.map_append, List.map_cons, List.map_nil, hstamp]
        simp
      rw [hpush]
      have L2 : LW ρ s loc w0 itid m clock ((vs ++ [i]).map (stamp es)) (setBlock w1 pit.b (.mapIter (some mq.b) clock ((vs ++ [i]).map (stamp es)).toArray clock)) (got pr ks vs) ov iv := L.turn C i1 i2 hw1
      generalize setBlock w1 pit.b (.mapIter (some mq.b) clock ((vs ++ [i]).map (stamp es)).toArray clock) = w2 at L2
      rw [C.ok.op1.2.1]
      unfold wpList
      rw [if_pos (by simp [Region.wanted, C.ok.op2.2.2])]
      refine .inl ?_
      have ha1 : ActOk nt (a.put (some h.d1) (.tuple #[.bool true, y.key, y.val])) := ha.put _ _
      have hx : (execOp (a.put (some h.d1) (.tuple #[.bool true, y.key, y.val])).eval h.o2).run P w2 = .ok (.value (.bool true)) w2 := by
        simp only [execOp, C.ok.op2.1]
        have : (a.put (some h.d1) (.tuple #[.bool true, y.key, y.val])).eval (.tmp h.d1) = .tuple #[.bool true, y.key, y.val] := by
          show (a.put (some h.d1) _).tmps.getD h.d1 undef = _
          rw [put_get a h.d1 _ (by rw [ha.size]; exact hd1), if_pos rfl]
        rw [this]
        rfl
      unfold Oper.wp
      rw [hx, Oper.upon_value, C.ok.op2.2.1]
      unfold wpList
      have ha2 := ha1.put (some h.d2) (.bool true)
      refine wp_seq (wp_cond_true (by
        rw [C.ok.c]
        show ((a.put (some h.d1) (.tuple #[.bool true, y.key, y.val])).put (some h.d2) (.bool true)).tmps.getD h.d2 undef = _
        rw [put_get _ h.d2 _ (by rw [ha1.size]; exact hd2), if_pos rfl]) (wp_skip ?_))
      have keep2 : ∀ t, t ≠ h.d1 → t ≠ h.d2 → ((a.put (some h.d1) (.tuple #[.bool true, y.key, y.val])).put (some h.d2) (.bool true)).tmps.getD t undef = a.tmps.getD t undef := fun t h1 h2 => by
        rw [put_get _ h.d2 _ (by rw [ha1.size]; exact hd2), if_neg h2, put_get _ h.d1 _ (by rw [ha.size]; exact hd1), if_neg h1]
      have u1 := keep2 h.ti C.ne1 C.ne2
      have u2 := keep2 to (fun e => C.ne5 e.symm) (fun e => C.ne6 e.symm)
      rw [t1] at u1
      rw [t2] at u2
      generalize (a.put (some h.d1) (.tuple #[.bool true, y.key, y.val])).put (some h.d2) (.bool true) = a2 at ha2 u1 u2
      refine wp_block (wp_seq (wp_region_list ?_))
      rw [C.ok.ops4]
      unfold wpList
      rw [if_pos (by simp [Region.wanted, C.ok.op3.2.2])]
      refine .inl ?_
      -- the entry is read again
      obtain ⟨pit2, mq2, k1, k2, k3, k4⟩ := L2.it
      rw [i1] at k1; cases k1
      rw [i2] at k2; cases k2
      obtain ⟨mq3, g3, g4⟩ := L2.st.mem.sat _ _ hBm
      rw [i2] at g3; cases g3
      obtain ⟨ar2, har2, hel2⟩ := g4.el
      have hfe : es.find? (fun x => Nat.beq x.b y.born) = some es[i] := by
        cases hf : es.find? (fun x => Nat.beq x.b y.born) with
        | none =>
          have := List.find?_eq_none.1 hf es[i] (List.getElem_mem hil)
          rw [hb] at this
          simp at this
        | some e' =>
          have hp := List.find?_some hf
          have hmem := List.mem_of_find?_eq_some hf
          obtain ⟨j, hj⟩ := List.getElem?_of_mem hmem
          obtain ⟨hjl, hje⟩ := List.getElem?_eq_some_iff.1 hj
          have hbj : e'.b = y.born := Nat.eq_of_beq_eq_true hp
          have : j = i := by
            have e2 : (es.map fun e => e.b)[j]'(by simpa using hjl) = (es.map fun e => e.b)[i]'(by simpa using hil) := by
              simp only [List.getElem_map]
              rw [hje, hbj, hb]
            exact (List.getElem_inj C.nodup).1 e2
          subst this
          rw [hje]
      obtain ⟨y2, hy2f, v1, v2⟩ := find_el hel2 y.born hfe
      have hfind : ar2.find? (fun x => x.born == y.born) = some y2 := by
        rw [← Array.find?_toList]; exact hy2f
      have hent : (execOp a2.eval h.o3).run P w2 = .ok (.value (.tuple #[y2.key, y2.val])) w2 := by
        simp only [execOp, C.ok.op3.1]
        rw [run_val]
        have : a2.eval (.tmp h.ti) = .pointer (some ⟨pit.b, 0, none⟩) := by rw [← k4]; exact u1
        rw [this]
        have gob : (getObj pit.b).run P w2 = .ok (.mapIter (some mq.b) clock ((vs ++ [i]).map (stamp es)).toArray clock) w2 := by simp [getObj, Sem.run, k3]
        have hback : ((vs ++ [i]).map (stamp es)).toArray.back? = some y.born := by
          rw [List.map_append, List.map_cons, List.map_nil, hstamp, List.back?_toArray]
          simp
        unfold Instr.entry
        show ((getObj pit.b >>= _ : Sem Value).run P w2).andThen _ = _
        rw [Sem.run_bind, gob]
        simp only [Result.andThen_ok, hback]
        rw [Sem.run_bind, Go.MapKept.run_getObj_map har2]
        simp only [Result.andThen_ok]
        rw [if_neg (by simp), hfind]
        rfl
      unfold Oper.wp
      rw [hent, Oper.upon_value, C.ok.op3.2.1]
      have ha3 := ha2.put (some h.d3) (.tuple #[y2.key, y2.val])
      have keep3 : ∀ t, t ≠ h.d3 → (a2.put (some h.d3) (.tuple #[y2.key, y2.val])).tmps.getD t undef = a2.tmps.getD t undef := fun t h1 => by
        rw [put_get _ h.d3 _ (by rw [ha2.size]; exact hd3), if_neg h1]
      obtain ⟨z, hz1, hz2⟩ := C.keys.2 i _ he
      have hcle := got_le (pr := pr) (ks := ks) (by rw [hplen, C.keys.1]) hperm
      obtain ⟨q, hq1, hq2⟩ := C.runs _ hcle i _ he
      refine body_ok hC hD C L2 hz2 hq2 ha3 v1 v2 ?_ ?_ ?_ (fun a' w' ov' L3 x1 x2 x3 => ?_)
      · rw [keep3 _ C.ne3]; exact u1
      · rw [keep3 _ (fun e => C.ne7 e.symm)]; exact u2
      · rw [put_get _ h.d3 _ (by rw [ha2.size]; exact hd3), if_pos rfl]
      · have hgot : (if q = true then got pr ks vs ++ [z] else got pr ks vs) = got pr ks (vs ++ [i]) := by
          unfold got
          rw [List.filter_append, List.map_append]
          have hpi : pr.getD i false = q := by rw [List.getD_eq_getElem?_getD, hq1]; rfl
          have hki : ks.getD i 0 = z := by rw [List.getD_eq_getElem?_getD, hz1]; rfl
          have hf : ([i].filter fun i => pr.getD i false).map (fun i => ks.getD i 0) = if q = true then [z] else [] := by
            rw [List.filter_cons, hpi]
            cases q with
            | true => show [ks.getD i 0] = [z]; rw [hki]
            | false => rfl
          rw [hf]
          cases q <;> simp
        rw [hgot] at L3
        have hpe : ((vs ++ [i]) ++ left.erase i).Perm (List.range pr.length) := by
          refine List.Perm.trans ?_ hperm
          rw [List.append_assoc]
          exact (List.perm_cons_erase hile).symm.append_left vs
        have hle : (left.erase i).length = left.length - 1 := List.length_erase_of_mem hile
        have hpos : 0 < left.length := List.length_pos_of_mem hile
        first
        | (omega; done)
        | exact ih (vs ++ [i]) (left.erase i) a' w' ov' iv (by omega) hpe L3 x1 x2 x3 Q hQ

end

end Go.Cx
