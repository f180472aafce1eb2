/- The rule for loops that collect keys is right: the whole. No program is named here. -/
import Derived.Test.YtlffgjppnbhahaaGreatX28
set_option linter.unusedSimpArgs false
set_option linter.unusedVariables false
set_option maxHeartbeats 1000000
namespace Go.Cx

section
variable {P : Program} {call : Callee} {draw : List Oper → St → R St} {fuel to : Nat}

theorem lpC_ok (hC : ∀ ρ, CallOk P ρ call) (hD : ∀ ρ nt, DrawOk P ρ nt draw) (ρ : Nat → Int) {nt : Nat} : LoopOk P ρ nt (lpC P call draw fuel to) := by
  intro b s e s' hl hdst loc a w hT hM hf ha
  unfold lpC at hl
  split at hl
  · cases hl
  · rename_i h hlk
    obtain ⟨rfl, hok, n1, n2, n3⟩ := looks_ok hlk
    split at hl
    · rename_i itid hti
      split at hl
      · rename_i m since seen last hit
        split at hl
        · rename_i es clock hmap
          cases hle : Nat.ble es.length 1 with
          | true => rw [hle] at hl; cases hl
          | false =>
            rw [hle, cond_false] at hl
            have hl := Option.some.inj hl
            obtain ⟨c1, hl⟩ := R.if_ok.1 hl
            obtain ⟨ov, c2, hl⟩ := R.bind_ok.1 hl
            obtain ⟨c3, hl⟩ := R.if_ok.1 hl
            obtain ⟨ks, c4, hl⟩ := R.bind_ok.1 hl
            obtain ⟨pr, c5, hl⟩ := R.bind_ok.1 hl
            obtain ⟨_, c6, hl⟩ := R.bind_ok.1 hl
            cases hl
            simp only [Bool.and_eq_true, Bool.not_eq_true'] at c1
            obtain ⟨⟨⟨⟨⟨⟨⟨⟨⟨b1, b2⟩, b3⟩, b4⟩, b5⟩, b6⟩, b7⟩, b8⟩, b9⟩, b10⟩ := c1
            have b1 : seen = [] := by simpa using b1
            have b2 := Nat.eq_of_beq_eq_true b2
            have b3 := Nat.eq_of_beq_eq_true b3
            subst b1
            rw [b2, b3] at hit
            have c2 := R.of_ok.1 c2
            have hov := eqCV_eq _ _ c3
            subst hov
            have hkeys := keysL_ok c4
            have hpr := runEs_ok c5
            have C : Ctx P call draw fuel to ρ nt s loc w h itid m es clock pr ks := {
              ok := hok, ne1 := n1, ne2 := n2, ne3 := n3, ne4 := Nat.ne_of_beq_eq_false b6, ne5 := Nat.ne_of_beq_eq_false b7, ne6 := Nat.ne_of_beq_eq_false b8, ne7 := Nat.ne_of_beq_eq_false b9
              hit := hit, hmap := mapAt_ok hmap
              born := fun e he => Nat.le_of_ble_eq_true (List.all_eq_true.1 b4 e he)
              nodup := nodupB_ok b5
              keys := hkeys
              prl := hpr.1
              runs := fun c hc i e he => by
                by_cases c0 : c = 0
                · subst c0; exact hpr.2 i e he
                · exact (runEs_ok (runsAll_ok c6 c (by omega) hc)).2 i e he
              mem := hM, free := hf, dst := hdst }
            -- as it begins
            obtain ⟨pit, j1, mq, j2, j3⟩ := hM.sat _ _ hit
            have hmem0 : Mem ρ loc (hB s itid) w := hM.less fun j o hj => (hB_sub hj).1
            have hst0 : Step ρ loc s.hp.get s.nx w loc (hB s itid) s.nx w := (Step.refl hM).less fun j o hj => (hB_sub hj).1
            have L0 : LW ρ s loc w itid m clock (([] : List Nat).map (stamp es)) w (got pr ks []) (.slice none 0 0) (a.tmps.getD h.ti undef) := by
              refine ⟨hst0, ⟨pit, mq, j1, j2, j3, ?_⟩, .inl ⟨rfl, rfl⟩⟩
              have := hT _ _ hti
              simp only [V] at this
              obtain ⟨p, p1, p2⟩ := this
              rw [j1] at p1; cases p1
              exact p2
            have hout0 : a.tmps.getD to undef = .slice none 0 0 := by
              have := hT _ _ c2
              simpa [V] using this
            refine wp_loop_rounds (pr.length + 1) (rounds_ok hC hD C pr.length [] (List.range pr.length) a w (.slice none 0 0) _ (by simp) (by simp) L0 rfl hout0 ha _ ?_)
            intro vs a' w' ov' iv' hperm L t1 ha'
            refine ⟨rfl, ?_⟩
            have hgp := got_perm (pr := pr) (ks := ks) (by rw [hpr.1, hkeys.1]) hperm
            have hlen := hgp.length_eq
            have htmv : ∀ (loc' : Lc), V ρ loc' (outC s.nx (pickL pr ks).length) ov' → TmOk ρ loc' (Tr.e.set to (outC s.nx (pickL pr ks).length)) a' := fun loc' hv t v ht => by
              rw [Tr.get_set] at ht
              split at ht
              · rename_i e; subst e
                cases ht
                rw [t1]
                exact hv
              · cases ht
            rcases L.out with ⟨z0, o0⟩ | ⟨z0, pl, p1, p2, p3, p4⟩
            · rw [z0] at hlen
              have h0 : (pickL pr ks).length = 0 := by simpa using hlen.symm
              rw [h0]
              rw [h0] at htmv
              refine ⟨loc, htmv loc (by simp [outC, o0, V]), ?_, fun id hid => hf id (by dsimp only at hid; omega), ha'⟩
              refine (L.st.wide (Nat.le_succ _)).less' fun j o hj => ?_
              dsimp only at hj
              rw [show Nat.beq 0 0 = true from rfl, cond_true, Tr.get_del] at hj
              unfold hB
              exact hj
            · have hz : Nat.beq (pickL pr ks).length 0 = false := by
                cases hb : Nat.beq (pickL pr ks).length 0 with
                | false => rfl
                | true =>
                  have := Nat.eq_of_beq_eq_true hb
                  rw [this] at hlen
                  exact (z0 (List.length_eq_zero_iff.1 hlen)).elim
              have hln : locO loc s.nx pl s.nx = some pl := if_pos rfl
              have hll := lle_locO (s := s) (pl := pl) hf
              have hlo : ∀ j, j ≠ s.nx → locO loc s.nx pl j = loc j := fun j hj => if_neg hj
              have hold : ∀ j o, hB s itid j = some o → j ≠ s.nx := fun j o hj e => by
                obtain ⟨p, g1, _⟩ := L.st.mem.sat _ _ hj
                rw [e, hf _ (Nat.le_refl _)] at g1; cases g1
              -- what has been collected
              let ob : OB := bif Nat.beq (pickL pr ks).length 1 then .cells (intsL (pickL pr ks)) else .bag (intsL (pickL pr ks))
              have hob : Holds ρ (locO loc s.nx pl) w' pl ob := by
                have p5 : Holds ρ (locO loc s.nx pl) w' pl (.cells (intsL (got pr ks vs))) := p4.mono hll rfl
                show Holds ρ _ w' pl (bif Nat.beq (pickL pr ks).length 1 then OB.cells (intsL (pickL pr ks)) else OB.bag (intsL (pickL pr ks)))
                cases h1 : Nat.beq (pickL pr ks).length 1 with
                | true =>
                  have h1 := Nat.eq_of_beq_eq_true h1
                  have : got pr ks vs = pickL pr ks := by
                    match hg : got pr ks vs, hp : pickL pr ks with
                    | [x], [y] =>
                      rw [hg, hp] at hgp
                      rw [List.singleton_perm_singleton.1 hgp]
                    | [], _ => rw [hg] at hlen; simp at hlen; omega
                    | _ :: _ :: _, _ => rw [hg] at hlen; simp at hlen; omega
                    | _, [] => rw [hp] at h1; simp at h1
                    | _, _ :: _ :: _ => rw [hp] at h1; simp at h1
                  rw [← this]
                  exact p5
                | false =>
                  obtain ⟨c, ec, q1, q2, q3, q4⟩ := p5
                  exact ⟨_, hgp.map _, c, ec, q1, q2, q3, q4⟩
              have hget : ∀ j o, ((s.hp.del itid).set s.nx ob).get j = some o → (j = s.nx ∧ o = ob) ∨ (j ≠ s.nx ∧ hB s itid j = some o) := fun j o hj => by
                rw [Tr.get_set] at hj
                split at hj
                · rename_i e; cases hj; exact .inl ⟨e, rfl⟩
                · rename_i e
                  rw [Tr.get_del] at hj
                  exact .inr ⟨e, hj⟩
              refine ⟨locO loc s.nx pl, htmv _ ?_, ?_, fun id hid => ?_, ha'⟩
              · unfold outC
                rw [hz, cond_false, ← hlen]
                exact p3
              · dsimp only
                rw [hz, cond_false]
                refine ⟨⟨fun j o hj => ?_, fun i j o o' p q hi hj hp hq e => ?_⟩, Nat.le_succ _, fun id hid => hlo id (by omega), ⟨L.st.fr.os, L.st.fr.tape, L.st.fr.output, L.st.fr.size, L.st.fr.kept, ?_⟩⟩
                · rcases hget j o hj with ⟨rfl, rfl⟩ | ⟨g1, g2⟩
                  · exact ⟨pl, hln, hob⟩
                  · obtain ⟨p, g3, g4⟩ := L.st.mem.sat _ _ g2
                    exact ⟨p, hll _ _ g3, g4.mono hll rfl⟩
                · have far : ∀ j o p, hB s itid j = some o → locO loc s.nx pl j = some p → p.b ≠ pl.b := fun j o p hj hp e => by
                    have hne := hold j o hj
                    rw [hlo j hne] at hp
                    have := C.lt0 (hB_sub hj).1 hp
                    omega
                  rcases hget i o hi with ⟨rfl, rfl⟩ | ⟨g1, g2⟩ <;> rcases hget j o' hj with ⟨rfl, rfl⟩ | ⟨k1, k2⟩
                  · rfl
                  · rw [hln] at hp; cases hp
                    exact (far _ _ _ k2 hq e.symm).elim
                  · rw [hln] at hq; cases hq
                    exact (far _ _ _ g2 hp e).elim
                  · rw [hlo _ g1] at hp
                    rw [hlo _ k1] at hq
                    exact L.st.mem.inj _ _ _ _ _ _ g2 k2 hp hq e
                · rintro b' ⟨j, o, p, hj, hp, rfl⟩
                  rcases hget j o hj with ⟨rfl, rfl⟩ | ⟨g1, g2⟩
                  · rw [hln] at hp; cases hp
                    exact .inr p1
                  · rw [hlo _ g1] at hp
                    exact .inl ⟨j, o, p, (hB_sub g2).1, hp, rfl⟩
              · dsimp only at hid
                rw [hlo id (by omega)]
                exact hf id (by omega)
        · cases hl
      · cases hl
    · cases hl

end

end Go.Cx
