/- Summaries of what runs over a value that is not known: is it flat; its own copy. -/
import Derived.Test.YtlffgjppnbhahaaGreatXB
import Derived.Test.YtlffgjppnbhahaaGreatN2
import Derived.Test.YtlffgjppnbhahaaGreatProg
set_option linter.unusedSimpArgs false
set_option linter.unusedVariables false
set_option maxHeartbeats 1000000
namespace Go.Cx
open Go.Ab (PV HV D iD bD)

/-- The four cells of an unknown value: what they read as is told by 0 to 3. -/
def valC : List CV → Option (Nat × Nat × Nat × Nat)
  | [x] => match x with
    | .agg l => match l with
      | [.opq a i, .opq b j, .opq c k, .opq e m] => bif Nat.beq i 0 && Nat.beq j 1 && Nat.beq k 2 && Nat.beq m 3 then some (a, b, c, e) else none
      | _ => none
    | _ => none
  | _ => none

theorem valC_ok {l : List CV} {a b c e : Nat} (h : valC l = some (a, b, c, e)) : l = [.agg [.opq a 0, .opq b 1, .opq c 2, .opq e 3]] := by
  unfold valC at h
  split at h
  · split at h
    · split at h
      · rename_i a' i b' j c' k e' m
        cases hc : (Nat.beq i 0 && Nat.beq j 1 && Nat.beq k 2 && Nat.beq m 3) with
        | false => rw [hc] at h; cases h
        | true =>
          rw [hc] at h
          cases h
          simp only [Bool.and_eq_true] at hc
          have h1 := Nat.eq_of_beq_eq_true hc.1.1.1
          have h2 := Nat.eq_of_beq_eq_true hc.1.1.2
          have h3 := Nat.eq_of_beq_eq_true hc.1.2
          have h4 := Nat.eq_of_beq_eq_true hc.2
          subst h1 h2 h3 h4
          rfl
      · cases h
    · cases h
  · cases h

def flatS (q : Bool) : Sum := fun f args hp nx => bif Nat.beq f 29 then (match valC args with
  | some _ => some (.ok (.lit (.bool q), hp, nx))
  | none => none) else none

def ownS : Sum := fun f args hp nx => bif Nat.beq f 35 then (match valC args with
  | some (a, b, c, _) => some (.ok (.agg [.opq a 0, .opq b 1, .opq c 2, .opq nx 3], hp, nx + 1))
  | none => none) else none

/-- What unknown cells read as. -/
def rhoV (i : Nat → Int) (k n : Int) (t : ByteArray) (args : List (List PV)) : Env where
  i := i
  d := fun
    | 0 => .lit (.int .i64 k)
    | 1 => .lit (.int .i64 n)
    | 2 => .lit (.string t)
    | _ => .sl args

section
variable {i : Nat → Int} {k n : Int} {t : ByteArray} {args : List (List PV)} {loc : Lc} {h : Nat → Option OB} {w : World}

theorem opq_lit {ρ : Env} {a d : Nat} {x v : Value} (m : Trees loc h w) (hd : ρ.d d = .lit x) (hv : V ρ loc (.opq a d) v) : v = x := by
  simp only [V] at hv
  obtain ⟨p, h1, ⟨F, h2⟩, _⟩ := hv
  obtain ⟨⟨H, _, h3, _⟩, _⟩ := m a p v _ F h1 h2
  rw [hd] at h3
  exact h3.lit_inv

theorem val_read (m : Trees loc h w) {vs : List Value} {a b c e : Nat} (hv : VL (rhoV i k n t args) loc [.agg [.opq a 0, .opq b 1, .opq c 2, .opq e 3]] vs) :
    ∃ ws H F p, vs = [.agg #[.int .i64 k, .int .i64 n, .string t, ws]] ∧ Go.Ab.Sr H noLoc [] w ∧ Go.Ab.V H noLoc [] ws (.p (.sl args)) ∧ (∀ b, H b ≠ none → F b) ∧ loc e = some p ∧ p.k = some (ws, .sl args, F) ∧
      V (rhoV i k n t args) loc (.opq a 0) (.int .i64 k) ∧ V (rhoV i k n t args) loc (.opq b 1) (.int .i64 n) ∧ V (rhoV i k n t args) loc (.opq c 2) (.string t) := by
  simp only [VL] at hv
  obtain ⟨v, r, rfl, hv, rfl⟩ := hv
  simp only [V] at hv
  obtain ⟨arr, rfl, hv⟩ := hv
  simp only [VL] at hv
  obtain ⟨w0, r0, e0, h0, w1, r1, e1, h1, w2, r2, e2, h2, w3, r3, e3, h3, e4⟩ := hv
  subst e4; subst e3; subst e2; subst e1
  have g0 : w0 = .int .i64 k := opq_lit m rfl h0
  have g1 : w1 = .int .i64 n := opq_lit m rfl h1
  have g2 : w2 = .string t := opq_lit m rfl h2
  subst g0 g1 g2
  have h3' := h3
  simp only [V] at h3
  obtain ⟨p, q1, ⟨F, q2⟩, _⟩ := h3
  obtain ⟨⟨H, s1, s2, s3⟩, _⟩ := m e p w3 _ F q1 q2
  refine ⟨w3, H, F, p, ?_, s1, s2, s3, q1, q2, h0, h1, h2⟩
  congr 1
  congr 1
  exact Array.ext' e0

theorem four {H : HV} {ws : Value} (hs : Go.Ab.V H noLoc [] ws (.p (.sl args))) (i : Nat) (v : Value) (d : D) (h1 : (#[Value.agg #[.int .i64 k, .int .i64 n, .string t, ws]] : Array Value)[i]? = some v) (h2 : [Go.Proofs.YtlffgjppnbhahaaGreat.P.valD k n t args][i]? = some d) : Go.Ab.V H noLoc [] v d := by
  match i, h1, h2 with
  | 0, h1, h2 =>
    simp only [List.getElem?_toArray, List.getElem?_cons_zero, Option.some.injEq] at h1 h2
    subst h1; subst h2
    refine .agg _ _ rfl fun j v d g1 g2 => ?_
    match j, g1, g2 with
    | 0, g1, g2 => simp at g1 g2; subst g1; subst g2; exact .p _ _ (.lit _)
    | 1, g1, g2 => simp at g1 g2; subst g1; subst g2; exact .p _ _ (.lit _)
    | 2, g1, g2 => simp at g1 g2; subst g1; subst g2; exact .p _ _ (.lit _)
    | 3, g1, g2 => simp at g1 g2; subst g1; subst g2; exact hs
    | j + 4, g1, g2 => simp at g1
  | i + 1, h1, h2 => simp at h1

theorem flatS_ok {P : Program} {q : Bool} (hf : Go.Ab.ACallP P 29 [Go.Proofs.YtlffgjppnbhahaaGreat.P.valD k n t args] (bD q)) : SumOk P (rhoV i k n t args) (flatS q) := by
  intro f xs hp nx v hp' nx' hs loc w vs hM hv hfr
  unfold flatS at hs
  cases hb : Nat.beq f 29 with
  | false => rw [hb] at hs; cases hs
  | true =>
    rw [hb, cond_true] at hs
    have := Nat.eq_of_beq_eq_true hb
    subst this
    split at hs
    · rename_i x hx
      obtain ⟨a, b, c, e⟩ := x
      have := valC_ok hx
      subst this
      cases hs
      obtain ⟨ws, H, F, p, hvs, s1, s2, s3, q1, q2, _⟩ := val_read hM.tree hv
      have hvs : vs = #[.agg #[.int .i64 k, .int .i64 n, .string t, ws]] := Array.ext' hvs
      subst hvs
      refine (hf H noLoc w _ s1 rfl (four s2)).mono ?_
      rintro ex w' ⟨v', H', loc'', r, obs', ⟨rfl, rfl⟩, rfl, hv', hs', hg, _, _⟩
      have := hv'.lit_inv
      subst this
      have kept : ∀ b, b < w.heap.size → w'.heap[b]? = w.heap[b]? := fun b hb => hg.kept b hb (by rintro ⟨_, _, h, _⟩; cases h)
      have fr : Fr loc hp.get w loc hp.get w' := ⟨hg.os, hg.tape, hg.output, hg.size, fun b hb _ => kept b hb, fun b hb => .inl hb, fun _ _ _ _ _ g _ => .inl g⟩
      refine ⟨_, loc, rfl, by simp only [V], ⟨⟨hM.tree.step fr, fun id o ho => ?_, hM.inj⟩, Nat.le_refl _, fun _ _ => rfl, fr⟩⟩
      obtain ⟨p, hp, hh⟩ := hM.sat id o ho
      exact ⟨p, hp, hh.mono (.refl _) (kept _ hh.lt)⟩
    · cases hs

theorem agg_inv {H : HV} {l : Nat → Go.Ab.Loc} {obs : List Go.Ab.Ob} {v : Value} (hv : Go.Ab.V H l obs v (Go.Proofs.YtlffgjppnbhahaaGreat.P.valD k n t args)) : ∃ ws, v = .agg #[.int .i64 k, .int .i64 n, .string t, ws] ∧ Go.Ab.PVr H ws (.sl args) := by
  cases hv with
  | agg vs cs hn h =>
    match vs, hn with
    | ⟨[w0, w1, w2, w3]⟩, _ =>
      have g0 := (h 0 w0 _ rfl rfl).lit_inv
      have g1 := (h 1 w1 _ rfl rfl).lit_inv
      have g2 := (h 2 w2 _ rfl rfl).lit_inv
      have g3 := h 3 w3 _ rfl rfl
      subst g0 g1 g2
      refine ⟨w3, rfl, ?_⟩
      cases g3 with
      | p v x hx => exact hx

theorem ownS_ok {P : Program} (hf : Go.Ab.ACallP P 35 [Go.Proofs.YtlffgjppnbhahaaGreat.P.valD k n t args] (Go.Proofs.YtlffgjppnbhahaaGreat.P.valD k n t args)) : SumOk P (rhoV i k n t args) ownS := by
  intro f xs hp nx v hp' nx' hs loc w vs hM hv hfr
  unfold ownS at hs
  cases hb : Nat.beq f 35 with
  | false => rw [hb] at hs; cases hs
  | true =>
    rw [hb, cond_true] at hs
    have := Nat.eq_of_beq_eq_true hb
    subst this
    split at hs
    · rename_i a b c e hx
      have := valC_ok hx
      subst this
      cases hs
      obtain ⟨ws, H, F, p, hvs, s1, s2, s3, q1, q2, v0, v1, v2⟩ := val_read hM.tree hv
      have hvs : vs = #[.agg #[.int .i64 k, .int .i64 n, .string t, ws]] := Array.ext' hvs
      subst hvs
      refine (hf H noLoc w _ s1 rfl (four s2)).mono ?_
      rintro ex w' ⟨v', H', loc'', r, obs', ⟨rfl, rfl⟩, rfl, hv', hs', hg, _, _⟩
      obtain ⟨ws', rfl, hr'⟩ := agg_inv hv'
      have kept : ∀ b, b < w.heap.size → w'.heap[b]? = w.heap[b]? := fun b hb => hg.kept b hb (by rintro ⟨_, _, h, _⟩; cases h)
      obtain ⟨loc', hloc⟩ : ∃ loc' : Lc, loc' = fun j => if j = nx then some ⟨0, 0, 0, some (ws', .sl args, fun b => H' b ≠ none)⟩ else loc j := ⟨_, rfl⟩
      have hnx : loc nx = none := hfr nx (Nat.le_refl _)
      have hne : ∀ j, j ≠ nx → loc' j = loc j := fun j hj => by rw [hloc]; exact if_neg hj
      have hln : loc' nx = some ⟨0, 0, 0, some (ws', .sl args, fun b => H' b ≠ none)⟩ := by rw [hloc]; exact if_pos rfl
      have hle : LLe loc loc' := fun id p hp => by
        by_cases e : id = nx
        · subst e; rw [hnx] at hp; cases hp
        · rw [hne id e]; exact hp
      have hon : ∀ id o, hp.get id = some o → id ≠ nx := fun id o ho e => by
        obtain ⟨p, hp, _⟩ := hM.sat id o ho
        rw [e, hnx] at hp; cases hp
      have hdom : ∀ b, Dom loc' hp.get b → Dom loc hp.get b := fun b ⟨id, o, p, g1, g2, g3⟩ => ⟨id, o, p, g1, by rw [← hne id (hon id o g1)]; exact g2, g3⟩
      have hlt : ∀ b, H' b ≠ none → b < w'.heap.size := fun b hb => by
        cases hc : H' b with
        | none => exact (hb hc).elim
        | some c =>
          obtain ⟨c', e, f, g, _⟩ := hs'.heap b c hc
          exact (Array.getElem?_eq_some_iff.1 g).1
      have fr : Fr loc hp.get w loc' hp.get w' := by
        refine ⟨hg.os, hg.tape, hg.output, hg.size, fun b hb _ => kept b hb, fun b hb => .inl (hdom b hb), fun id p' v A F' g1 g2 => ?_⟩
        by_cases e : id = nx
        · subst e
          rw [hln] at g1
          cases g1
          cases g2
          refine .inr ⟨⟨H', ⟨hs'.heap, fun _ _ h => (by cases h), fun _ _ h => (by cases h), fun _ _ _ _ h => (by cases h)⟩, .p _ _ hr', fun b hb => hb⟩, fun b hb => ⟨?_, hlt b hb, fun hd => ?_⟩⟩
          · cases hc : H' b with
            | none => exact (hb hc).elim
            | some c =>
              rcases hg.new b c hc with g | g | ⟨_, _, g, _⟩
              · exact .inr ⟨_, p, ws, _, F, q1, q2, s3 b g⟩
              · exact .inl g
              · cases g
          · have hd := hdom b hd
            cases hc : H' b with
            | none => exact (hb hc).elim
            | some c =>
              rcases hg.new b c hc with g | g | ⟨_, _, g, _⟩
              · exact ((hM.tree _ p ws _ F q1 q2).2 b (s3 b g)).1 hd
              · have := hM.dom_lt hd
                omega
              · cases g
        · rw [hne id e] at g1; exact .inl g1
      refine ⟨_, loc', rfl, ?_, ⟨⟨hM.tree.step fr, fun id o ho => ?_, fun x y o o' p p' g1 g2 g3 g4 => ?_⟩, Nat.le_succ _, fun id hid => hne id (by omega), fr⟩⟩
      · simp only [V]
        refine ⟨_, rfl, .cons (V.mono hle _ _ v0) (.cons (V.mono hle _ _ v1) (.cons (V.mono hle _ _ v2) (.cons ?_ .nil)))⟩
        simp only [V]
        refine ⟨_, hln, ⟨_, rfl⟩, ?_⟩
        cases hr' <;> rfl
      · obtain ⟨p, hp, hh⟩ := hM.sat id o ho
        exact ⟨p, hle _ _ hp, hh.mono hle (kept _ hh.lt)⟩
      · rw [hne x (hon x o g1)] at g3
        rw [hne y (hon y o' g2)] at g4
        exact hM.inj x y o o' p p' g1 g2 g3 g4
    · cases hs

end
end Go.Cx
