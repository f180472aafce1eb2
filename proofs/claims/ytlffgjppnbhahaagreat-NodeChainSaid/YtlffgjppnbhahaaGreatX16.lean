/- The language's own functions: len, max, min, append, copy, clear, delete. No program is named here. -/
import Derived.Test.YtlffgjppnbhahaaGreatX15
set_option linter.unusedSimpArgs false
set_option linter.unusedVariables false
set_option maxHeartbeats 1000000
namespace Go.Cx
open Go.MapKept (run_getObj_map run_setObj_map run_findKey bytes_beq heap_set)

section
variable {P : Program} {orb : BinOp → CV → CV → Option CV} {ρ : Nat → Int} {loc loc' : Lc} {s : St} {w : World} {r : Out}

theorem nilLen_ok {v : Value} {n : Nat} (h : nilLen v = .ok n) : v = .slice none 0 0 ∧ n = 0 := by
  unfold nilLen at h
  split at h
  · obtain ⟨h1, h⟩ := R.if_ok.1 h
    cases h
    rw [Bool.and_eq_true] at h1
    have e1 := Nat.eq_of_beq_eq_true h1.1
    have e2 := Nat.eq_of_beq_eq_true h1.2
    subst e1 e2
    exact ⟨rfl, rfl⟩
  · cases h

theorem args_ok {hp : Tr OB} (hM : Mem ρ loc hp.get w) {size : Nat} {y : CV} {c : Nat × List CV} (h : argsCells size hp y = .ok c) {u : Value} (hu : V ρ loc y u) {tx e' : TypeId} (hk : P.underlying tx = some (.slice e')) :
    ∃ news, Src P size tx u c.1 news w ∧ VL ρ loc c.2 news ∧ (∃ b l k, u = .slice b l k ∧ l = c.1) ∧ ∀ m, m ≤ c.1 → (Builtin.firstCells size m u).run P w = .ok (news.take (m * size)).toArray w := by
  cases y with
  | lit v =>
    obtain ⟨n, h1, h⟩ := R.bind_ok.1 h
    cases h
    obtain ⟨rfl, _⟩ := nilLen_ok h1
    simp only [V] at hu
    subst hu
    exact ⟨[], Src.ofNil w hk 0, .nil, ⟨_, _, _, rfl, rfl⟩, fun m hm => by simp [Builtin.firstCells]⟩
  | sl id s off len cap ex =>
    simp only [V] at hu
    obtain ⟨p, ad, k, hp', rfl, hc1, hc2, hc3, hc4⟩ := hu
    simp only [argsCells] at h
    cases h0 : Nat.beq len 0 with
    | true =>
      rw [h0, cond_true] at h
      cases h
      have := Nat.eq_of_beq_eq_true h0
      subst this
      exact ⟨[], Src.ofSlice w hk ad 0 k [] (by simp) (fun j u hj => by simp at hj) (fun u hu => by cases hu), .nil, ⟨_, _, _, rfl, rfl⟩, fun m hm => by
        have : m = 0 := by simpa using hm
        subst this
        simp [Builtin.firstCells, loadCells, loadCellsFrom]⟩
    | false =>
      rw [h0, cond_false] at h
      obtain ⟨h1, h⟩ := R.if_ok.1 h
      obtain ⟨xs, h2, h⟩ := R.bind_ok.1 h
      obtain ⟨cs, h3, h⟩ := R.bind_ok.1 h
      obtain ⟨h4, h⟩ := R.if_ok.1 h
      cases h
      have h1 := Nat.eq_of_beq_eq_true h1
      subst h1
      have h0 := Nat.ne_of_beq_eq_false h0
      obtain ⟨q, hq, hh⟩ := hM.cells h2
      rw [hp'] at hq; cases hq
      obtain ⟨vs, f1, f2, f3⟩ := hh.cut h3
      have had : ad = ⟨p.b, p.o + off, none⟩ := by
        rcases hc4 with h' | h'
        · omega
        · exact h'.1
      exact ⟨vs, Src.ofSlice w hk ad len k vs f2 (fun j u hj => by rw [had, addr_add]; exact f3 j u hj) (ones_ok f1 h4), f1, ⟨_, _, _, rfl, rfl⟩, fun m hm => run_firstCells_some w _ _ ad _ _ _ (by
        have : m * s ≤ len * s := Nat.mul_le_mul_right _ hm
        rw [List.length_take, f2]; dsimp only at hm; omega) (fun j u hj => by
        rw [List.getElem?_take] at hj
        split at hj
        · rw [had, addr_add]; exact f3 j u hj
        · cases hj)⟩
  | _ => cases h

/-- What a value-yielding function leads to. -/
def ValPost (ρ : Nat → Int) (loc : Lc) (s : St) (w : World) (r : Out) (res : Result Value) : Prop :=
  ∃ v hp nx, r = .val v hp nx ∧ (Free loc s.nx nx → ∃ v' w' loc', res = .ok v' w' ∧ V ρ loc' v v' ∧ Step ρ loc s.hp.get s.nx w loc' hp.get nx w')

theorem ValPost.pure (hM : Mem ρ loc s.hp.get w) {v : CV} {v' : Value} (h : V ρ loc v v') (hr : Out.pure s v = .ok r) {res : Result Value} (he : res = .ok v' w) : ValPost ρ loc s w r res := by
  cases hr
  exact ⟨_, _, _, rfl, fun _ => ⟨v', w, loc, he, h, .refl hM⟩⟩

theorem append_ok (hM : Mem ρ loc s.hp.get w) {t tx ty : TypeId} {x y : CV} {vx vy : Value} (hx : V ρ loc x vx) (hy : V ρ loc y vy) {ei : TI} (h1 : elemI P t = .ok ei) {ui : TI} (h2 : elemI P tx = .ok ui) {c : Nat × List CV} (h3 : argsCells ei.size s.hp y = .ok c)
    (h : appendV ei.size ei.bytes s.hp s.nx c.1 c.2 x = .ok r) : ValPost ρ loc s w r ((Builtin.append_ #[t, tx] ty #[vx, vy]).run P w) := by
  obtain ⟨i, e, t1, t2, t3⟩ := elemI_ok h1
  obtain ⟨i', e', t1', t2', _⟩ := elemI_ok h2
  have ht := t1.und
  rw [t2] at ht
  have hk := t1'.und
  rw [t2'] at hk
  obtain ⟨news, hs, hv, _, _⟩ := args_ok hM h3 hy hk
  obtain ⟨n, cs⟩ := c
  dsimp only at h hs hv
  have nothing : n = 0 → news = [] := fun h0 => by
    have := hs.newsLen
    subst h0
    simpa using this
  unfold appendV at h
  split at h
  · rename_i v
    obtain ⟨_, g1, h⟩ := R.bind_ok.1 h
    obtain ⟨rfl, _⟩ := nilLen_ok g1
    simp only [V] at hx
    subst hx
    cases h0 : Nat.beq n 0 with
    | true =>
      rw [h0, cond_true] at h
      cases h
      have h0 := Nat.eq_of_beq_eq_true h0
      have := nothing h0
      subst this h0
      exact ⟨_, _, _, rfl, fun _ => ⟨_, w, loc, append_zero ht t3 none 0 0 (Nat.le_refl _) hs, by simp [V], .refl hM⟩⟩
    | false =>
      rw [h0, cond_false] at h
      obtain ⟨hb, h⟩ := R.if_ok.1 h
      cases h
      have h0 := Nat.ne_of_beq_eq_false h0
      refine ⟨_, _, _, rfl, fun hf => ?_⟩
      have := append_grow (ty := ty) hM (hf _ (Nat.le_refl _) (by omega)) ht t3 none 0 0 (olds := []) (by simp [Builtin.firstCells]) (by simp) hs (by omega) (by simpa using hb) (cs := cs) (by simpa using hv)
      simpa using this
  · rename_i id st off len cap ex
    obtain ⟨g1, h⟩ := R.if_ok.1 h
    have g1 := Nat.eq_of_beq_eq_true g1
    subst g1
    simp only [V] at hx
    obtain ⟨p, ad, k, hp, rfl, hc1, hc2, hc3, hc4⟩ := hx
    cases h0 : Nat.beq n 0 with
    | true =>
      rw [h0, cond_true] at h
      cases h
      have h0 := Nat.eq_of_beq_eq_true h0
      have := nothing h0
      subst this h0
      exact ⟨_, _, _, rfl, fun _ => ⟨_, w, loc, append_zero ht t3 _ _ _ hc3 hs, by simp only [V]; exact ⟨p, ad, k, hp, rfl, hc1, hc2, hc3, hc4⟩, .refl hM⟩⟩
    | false =>
      rw [h0, cond_false] at h
      have h0 := Nat.ne_of_beq_eq_false h0
      cases hroom : Nat.ble (len + n) cap with
      | true =>
        rw [hroom, cond_true] at h
        obtain ⟨hp', g2, h⟩ := R.bind_ok.1 h
        cases h
        have hroom := Nat.le_of_ble_eq_true hroom
        obtain ⟨had, hfit⟩ : ad = ⟨p.b, p.o + off, none⟩ ∧ p.o + off + k * ei.size ≤ p.n := by
          rcases hc4 with h' | h'
          · omega
          · exact h'
        obtain ⟨w', g3, g4⟩ := wr_ok (P := P) (nx := s.nx) hM g2 hp hv
        refine ⟨_, _, _, rfl, fun _ => ⟨.slice (some ⟨p.b, p.o + off, none⟩) (len + n) k, w', loc, ?_, ?_, g4⟩⟩
        · rw [had]
          exact append_room ht t3 _ _ _ _ hs (by omega) (by rw [Nat.add_assoc]; exact g3)
        · simp only [V]
          exact ⟨p, _, k, hp, rfl, hc1, hc2, by omega, .inr ⟨rfl, hfit⟩⟩
      | false =>
        rw [hroom, cond_false] at h
        obtain ⟨hb, h⟩ := R.if_ok.1 h
        have hroom : ¬ len + n ≤ cap := fun h' => by rw [Nat.ble_eq_true_of_le h'] at hroom; cases hroom
        cases hz : (Nat.beq len 0 && ex) with
        | true =>
          rw [hz, cond_true] at h
          cases h
          rw [Bool.and_eq_true] at hz
          obtain ⟨hz1, hz2⟩ := hz
          have hz1 := Nat.eq_of_beq_eq_true hz1
          subst hz1
          have hk' := hc2 hz2
          refine ⟨_, _, _, rfl, fun hf => ?_⟩
          have := append_grow (ty := ty) hM (hf _ (Nat.le_refl _) (by omega)) ht t3 (some ad) 0 k (olds := []) (by simp [Builtin.firstCells, loadCells, loadCellsFrom]) (by simp) hs (by omega) hb (cs := cs) (by simpa using hv)
          simpa using this
        | false =>
          rw [hz, cond_false] at h
          obtain ⟨xs, g2, h⟩ := R.bind_ok.1 h
          obtain ⟨old, g3, h⟩ := R.bind_ok.1 h
          obtain ⟨g4, h⟩ := R.if_ok.1 h
          cases h
          refine ⟨_, _, _, rfl, fun hf => ?_⟩
          have hfn := hf _ (Nat.le_refl _) (by omega)
          obtain ⟨q, hq, hh⟩ := hM.cells g2
          rw [hp] at hq; cases hq
          obtain ⟨olds, f1, f2, f3⟩ := hh.cut g3
          have hold : ∀ w'' : World, (∀ (j : Nat) v, olds[j]? = some v → w''.cell? ⟨p.b, p.o + off + j, none⟩ = some v) → (Builtin.firstCells ei.size len (.slice (some ad) len k)).run P w'' = .ok olds.toArray w'' := fun w'' hw => by
            by_cases hl : len = 0
            · subst hl
              have : olds = [] := by simpa using f2
              subst this
              simp [Builtin.firstCells, loadCells, loadCellsFrom]
            · have had : ad = ⟨p.b, p.o + off, none⟩ := by
                rcases hc4 with h' | h'
                · omega
                · exact h'.1
              exact run_firstCells_some w'' _ _ ad _ _ olds f2 (fun j v hj => by rw [had, addr_add]; exact hw j v hj)
          cases ex with
          | true =>
            have hk' := hc2 rfl
            exact append_grow (ty := ty) hM hfn ht t3 (some ad) len k (hold w.drew (fun j v hj => f3 j v hj)) f2 hs (by omega) hb (f1.append hv)
          | false =>
            rw [cond_false]
            by_cases hr : len + n ≤ k
            · -- there was room
              obtain ⟨had, hfit⟩ : ad = ⟨p.b, p.o + off, none⟩ ∧ p.o + off + k * ei.size ≤ p.n := by
                rcases hc4 with h' | h'
                · omega
                · exact h'
              obtain ⟨q, hq, c, ec, q1, q2, q3, q4⟩ := hM.cells g2
              rw [hp] at hq; cases hq
              have hnl : news.length = n * ei.size := hs.newsLen
              have hmul : (len + n) * ei.size ≤ k * ei.size := Nat.mul_le_mul_right _ hr
              have hadd : (len + n) * ei.size = len * ei.size + n * ei.size := Nat.add_mul _ _ _
              obtain ⟨w', c', s1, s2, s3, s4, s5, s6, s7, s8, s9⟩ := store_raw (P := P) q1 (x := p.o + off + len * ei.size) (vs := news) (by omega) hs.one
              let loc' : Lc := fun j => if j = s.nx then some ⟨p.b, p.o + off, p.n⟩ else loc j
              have hll : LLe loc loc' := fun j t hj => by
                show (if j = s.nx then _ else loc j) = _
                split
                · rename_i e; subst e; rw [hfn] at hj; cases hj
                · exact hj
              refine ⟨.slice (some ⟨p.b, p.o + off, none⟩) (len + n) k, w', loc', by rw [had]; exact append_room ht t3 _ _ _ _ hs hr s1, ?_, Step.adopt (o' := .cells (old ++ cs)) (q := ⟨p.b, p.o + off, p.n⟩) hM (cellsAt_ok g2) hp hfn rfl s4 s5 s6 s7 s8 rfl ?_ ?_⟩
              · simp only [V]
                exact ⟨⟨p.b, p.o + off, p.n⟩, _, k, if_pos rfl, rfl, hr, by simp, hr, .inr ⟨rfl, by simpa using hfit⟩⟩
              · have hvl := (f1.append hv)
                have hll2 := hvl.length
                have hlo := f1.length
                have hcs := hv.length
                refine ⟨c', ec, s2, by rw [s3]; exact q2, ?_, fun i x hx => ?_⟩
                · show p.o + off + (old ++ cs).length ≤ p.n
                  rw [List.length_append]; omega
                · obtain ⟨v, v1, v2⟩ := hvl.get hx
                  refine ⟨v, ?_, V.mono hll _ _ v2⟩
                  show c'[p.o + off + i]? = some v
                  rw [s9]
                  by_cases hi : i < len * ei.size
                  · rw [if_neg (by omega)]
                    rw [List.getElem?_append_left (by omega)] at v1
                    have := f3 i v v1
                    simp [World.cell?, q1] at this
                    exact this
                  · have hi2 : i < (olds ++ news).length := (List.getElem?_eq_some_iff.1 v1).1
                    rw [List.length_append] at hi2
                    rw [if_pos (by omega), ← v1, List.getElem?_append_right (by omega)]
                    congr 1; omega
              · intro j
                rw [Tr.get_set, Tr.get_del]
            · -- there was none
              have hdel : ∀ j o, (s.hp.del id).get j = some o → s.hp.get j = some o := fun j o hj => by
                rw [Tr.get_del] at hj
                split at hj
                · cases hj
                · exact hj
              have st := (Step.refl (nx := s.nx) hM).less hdel
              obtain ⟨v, w', loc', r1, r2, r3⟩ := append_grow (ty := ty) st.mem hfn ht t3 (some ad) len k (hold w.drew (fun j v hj => f3 j v hj)) f2 hs (by omega) hb (f1.append hv)
              exact ⟨v, w', loc', r1, r2, st.trans r3⟩
  · cases h

end

end Go.Cx
