/- The rule for loops that collect keys is right: parts. No program is named here. -/
import Derived.Test.YtlffgjppnbhahaaGreatX25
set_option linter.unusedSimpArgs false
set_option linter.unusedVariables false
set_option maxHeartbeats 1000000
namespace Go.Cx
open Go.ChangeMaps (setBlock)

theorem keysL_ok : ∀ {es : List ME} {ks : List Int}, keysL es = .ok ks → ks.length = es.length ∧ ∀ (i : Nat) e, es[i]? = some e → ∃ z, ks[i]? = some z ∧ e.k = .lit (.int .i64 z)
  | [], ks, h => by cases h; exact ⟨rfl, fun i e h => by simp at h⟩
  | e :: es, ks, h => by
    obtain ⟨z, h1, h⟩ := R.bind_ok.1 h
    obtain ⟨zs, h2, h⟩ := R.bind_ok.1 h
    cases h
    obtain ⟨g1, g2⟩ := keysL_ok h2
    refine ⟨by simp [g1], fun i => ?_⟩
    cases i with
    | zero =>
      rintro e' he
      simp at he
      subst he
      refine ⟨z, rfl, ?_⟩
      have := R.of_ok.1 h1
      unfold keyI? at this
      split at this
      · rename_i q; cases this; exact q
      · cases this
    | succ i => rintro e' he; simp at he; simpa using g2 i e' he

section
variable {P : Program} {call : Callee} {draw : List Oper → St → R St} {fuel : Nat} {h : Hd} {to itid : Nat} {hp : Tr OB} {oid : Nat}

theorem runEs_ok {c : Nat} : ∀ {es : List ME} {pr : List Bool}, runEs P call draw fuel h to itid hp oid c es = .ok pr → pr.length = es.length ∧ ∀ (i : Nat) e, es[i]? = some e → ∃ q, pr[i]? = some q ∧ runE P call draw fuel h to itid hp oid c e = .ok q
  | [], pr, h1 => by cases h1; exact ⟨rfl, fun i e h => by simp at h⟩
  | e :: es, pr, h1 => by
    obtain ⟨q, h2, h3⟩ := R.bind_ok.1 h1
    obtain ⟨qs, h4, h5⟩ := R.bind_ok.1 h3
    cases h5
    obtain ⟨g1, g2⟩ := runEs_ok h4
    refine ⟨by simp [g1], fun i => ?_⟩
    cases i with
    | zero => rintro e' he; simp at he; subst he; exact ⟨q, rfl, h2⟩
    | succ i => rintro e' he; simp at he; simpa using g2 i e' he

theorem runsAll_ok {es : List ME} {pr : List Bool} : ∀ {n : Nat}, runsAll P call draw fuel h to itid hp oid es pr n = .ok () → ∀ c, 1 ≤ c → c ≤ n → runEs P call draw fuel h to itid hp oid c es = .ok pr
  | 0, _, c, h1, h2 => by omega
  | n + 1, h3, c, h1, h2 => by
    obtain ⟨qs, h4, h5⟩ := R.bind_ok.1 h3
    obtain ⟨h6, h7⟩ := R.if_ok.1 h5
    by_cases e : c = n + 1
    · subst e
      have : qs = pr := by simpa using h6
      rw [← this]; exact h4
    · exact runsAll_ok h7 c h1 (by omega)

end

theorem pickL_eq : ∀ (pr : List Bool) (ks : List Int), pr.length = ks.length → pickL pr ks = ((List.range pr.length).filter fun i => pr.getD i false).map fun i => ks.getD i 0
  | [], ks, _ => by simp [pickL]
  | p :: pr, [], h => by simp at h
  | p :: pr, k :: ks, h => by
    have ih := pickL_eq pr ks (by simpa using h)
    rw [List.length_cons, List.range_succ_eq_map, List.filter_cons]
    have e : ((List.map Nat.succ (List.range pr.length)).filter fun i => (p :: pr).getD i false).map (fun i => (k :: ks).getD i 0) = pickL pr ks := by
      rw [ih, List.filter_map, List.map_map]
      rfl
    cases p with
    | true =>
      rw [if_pos (by simp), List.map_cons, e]
      simp [pickL]
    | false =>
      rw [if_neg (by simp), e]
      simp [pickL]

theorem nodupB_ok : ∀ {l : List Nat}, nodupB l = true → l.Nodup
  | [], _ => List.nodup_nil
  | x :: l, h => by
    unfold nodupB at h
    rw [Bool.and_eq_true] at h
    refine List.nodup_cons.2 ⟨fun hx => ?_, nodupB_ok h.2⟩
    have h1 : l.any (fun y => Nat.beq x y) = false := by simpa using h.1
    have := List.any_eq_false.1 h1 x hx
    simp at this

theorem symsL_get (c i : Nat) : (symsL c)[i]? = if i < c then some (.sym (symI i)) else none := by
  unfold symsL
  rw [List.getElem?_map]
  by_cases h : i < c
  · rw [List.getElem?_range h, if_pos h]; rfl
  · rw [List.getElem?_eq_none (by simp; omega), if_neg h]; rfl

theorem kd_symI (i : Nat) : kd (symI i) = .i64 := by
  unfold kd symI
  rw [show (1000 + 2 * i) % 2 = 0 by omega]
  rfl

/-- Symbols that stand for what has been collected. -/
def rhoL (ρ : Nat → Int) (zs : List Int) (n : Nat) : Int := if 1000 ≤ n then zs.getD ((n - 1000) / 2) 0 else ρ n

theorem rhoL_sym (ρ : Nat → Int) (zs : List Int) (i : Nat) : rhoL ρ zs (symI i) = zs.getD i 0 := by
  unfold rhoL symI
  rw [if_pos (by omega), show (1000 + 2 * i - 1000) / 2 = i by omega]

theorem putAll_get : ∀ {nd : List (Nat × List CV)} {j : Nat} {o : OB}, (putAll nd).get j = some o → ∃ p, p ∈ nd ∧ p.1 = j ∧ o = .cells p.2
  | [], j, o, h => by cases h
  | p :: nd, j, o, h => by
    unfold putAll at h
    rw [List.foldr_cons, Tr.get_set] at h
    split at h
    · rename_i e; cases h; exact ⟨p, .head _, e.symm, rfl⟩
    · obtain ⟨q, h1, h2, h3⟩ := putAll_get h
      exact ⟨q, .tail _ h1, h2, h3⟩

theorem needs_ok {hp : Tr OB} {v : CV} {nd : List (Nat × List CV)} (h : needs hp v = .ok nd) : ∀ p, p ∈ nd → hp.get p.1 = some (.cells p.2) ∧ noSyms p.2 = true := by
  unfold needs at h
  split at h
  · obtain ⟨xs, h1, h⟩ := R.bind_ok.1 h
    obtain ⟨h2, h⟩ := R.if_ok.1 h
    cases h
    intro p hp'
    rw [List.mem_singleton] at hp'
    subst hp'
    exact ⟨cellsAt_ok h1, h2⟩
  · cases h; intro p hp'; cases hp'
  · cases h

theorem sameCells_ok {hp : Tr OB} {p : Nat × List CV} (h : sameCells hp p = .ok ()) : hp.get p.1 = some (.cells p.2) := by
  obtain ⟨ys, h1, h2⟩ := R.bind_ok.1 h
  obtain ⟨h3, _⟩ := R.if_ok.1 h2
  rw [← eqCVs_eq _ _ h3]
  exact cellsAt_ok h1

theorem sameAll_ok {hp : Tr OB} : ∀ {nd : List (Nat × List CV)}, sameAll hp nd = .ok () → ∀ p, p ∈ nd → hp.get p.1 = some (.cells p.2)
  | [], _, p, hp' => by cases hp'
  | q :: nd, h, p, hp' => by
    obtain ⟨_, h1, h2⟩ := R.bind_ok.1 h
    cases hp' with
    | head => exact sameCells_ok h1
    | tail _ hp' => exact sameAll_ok h2 p hp'

/-- The keys that have been collected. -/
def got (pr : List Bool) (ks : List Int) (vs : List Nat) : List Int := (vs.filter fun i => pr.getD i false).map fun i => ks.getD i 0

theorem got_perm {pr : List Bool} {ks : List Int} (hl : pr.length = ks.length) {l : List Nat} (h : l.Perm (List.range pr.length)) : (got pr ks l).Perm (pickL pr ks) := by
  rw [pickL_eq pr ks hl]
  exact (h.filter _).map _

theorem got_le {pr : List Bool} {ks : List Int} (hl : pr.length = ks.length) {vs left : List Nat} (h : (vs ++ left).Perm (List.range pr.length)) : (got pr ks vs).length ≤ (pickL pr ks).length := by
  have := (got_perm hl h).length_eq
  unfold got at this ⊢
  rw [List.filter_append, List.map_append, List.length_append] at this
  omega

theorem intsL_get (zs : List Int) (i : Nat) : (intsL zs)[i]? = (zs[i]?).map fun z => .lit (.int .i64 z) := by
  unfold intsL; rw [List.getElem?_map]

/-- Cells of collected numbers: as literals, as symbols. -/
theorem holds_syms {ρ : Nat → Int} {loc loc' : Lc} {w : World} {p : Pl} {zs : List Int} (h : Holds ρ loc w p (.cells (intsL zs))) : Holds (rhoL ρ zs) loc' w p (.cells (symsL zs.length)) := by
  obtain ⟨c, e, h1, h2, h3, h4⟩ := h
  refine ⟨c, e, h1, h2, by simpa [symsL, intsL] using h3, fun i x hx => ?_⟩
  rw [symsL_get] at hx
  split at hx
  · rename_i hi
    cases hx
    obtain ⟨v, g1, g2⟩ := h4 i _ (by rw [intsL_get, List.getElem?_eq_getElem hi]; rfl)
    refine ⟨v, g1, ?_⟩
    simp only [V] at g2 ⊢
    rw [kd_symI, rhoL_sym, g2, List.getD_eq_getElem?_getD, List.getElem?_eq_getElem hi]
    rfl
  · cases hx

theorem holds_ints {ρ ρ' : Nat → Int} {loc loc' : Lc} {w : World} {p : Pl} {zs more : List Int} (h : Holds (rhoL ρ zs) loc w p (.cells (symsL zs.length ++ intsL more))) : Holds ρ' loc' w p (.cells (intsL (zs ++ more))) := by
  obtain ⟨c, e, h1, h2, h3, h4⟩ := h
  have hl : (symsL zs.length).length = zs.length := by simp [symsL]
  refine ⟨c, e, h1, h2, ?_, fun i x hx => ?_⟩
  · have : (intsL (zs ++ more)).length = (symsL zs.length ++ intsL more).length := by simp [symsL, intsL]
    rw [this]; exact h3
  · rw [intsL_get] at hx
    by_cases hi : i < zs.length
    · rw [List.getElem?_append_left hi, List.getElem?_eq_getElem hi] at hx
      cases hx
      obtain ⟨v, g1, g2⟩ := h4 i (.sym (symI i)) (by rw [List.getElem?_append_left (by omega), symsL_get, if_pos hi])
      refine ⟨v, g1, ?_⟩
      simp only [V] at g2 ⊢
      rw [kd_symI, rhoL_sym, List.getD_eq_getElem?_getD, List.getElem?_eq_getElem hi] at g2
      exact g2
    · rw [List.getElem?_append_right (by omega)] at hx
      obtain ⟨v, g1, g2⟩ := h4 i x (by rw [List.getElem?_append_right (by omega), hl, intsL_get]; exact hx)
      refine ⟨v, g1, ?_⟩
      cases hm : more[i - zs.length]? with
      | none => rw [hm] at hx; cases hx
      | some z =>
        rw [hm] at hx
        cases hx
        simpa [V] using g2

/-- The number that is found again has the same stamp. -/
theorem stamp_mem {es : List ME} {vs : List Nat} {ar : List MapEntry} {ρ : Nat → Int} {loc : Lc} (hel : EL ρ loc es ar) (hn : (es.map fun e => e.b).Nodup) (hlt : ∀ i, i ∈ vs → i < es.length) {i : Nat} {y : MapEntry} (hy : ar[i]? = some y) :
    (vs.map fun i => ((es[i]?).map fun e => e.b).getD 0).contains y.born = true ↔ i ∈ vs := by
  have hlen := (EL.iff.1 hel).1
  have hi : i < es.length := by
    have := (List.getElem?_eq_some_iff.1 hy).1
    omega
  have he : es[i]? = some es[i] := List.getElem?_eq_getElem hi
  obtain ⟨y', hy', _, _, hb⟩ := (EL.iff.1 hel).2 i _ he
  rw [hy] at hy'; cases hy'
  rw [List.contains_iff_mem, List.mem_map]
  constructor
  · rintro ⟨j, hj, e⟩
    have hjl := hlt j hj
    rw [List.getElem?_eq_getElem hjl] at e
    simp only [Option.map_some, Option.getD_some] at e
    have : j = i := by
      have e2 : (es.map fun e => e.b)[j]'(by simpa using hjl) = (es.map fun e => e.b)[i]'(by simpa using hi) := by
        simp only [List.getElem_map]
        rw [e, hb]
      exact (List.getElem_inj hn).1 e2
    rw [← this]; exact hj
  · intro hv
    refine ⟨i, hv, ?_⟩
    rw [he]
    simp only [Option.map_some, Option.getD_some]
    exact hb.symm

end Go.Cx
