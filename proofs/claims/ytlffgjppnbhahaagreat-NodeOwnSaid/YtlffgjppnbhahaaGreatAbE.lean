/- '==' of structs and arrays whose cells are numbers, strings and Bools. No program is named here. -/
import Derived.Test.YtlffgjppnbhahaaGreatAb5
import Derived.Laws.StructEq
import Derived.ChangeKeysEq
set_option linter.unusedSimpArgs false
set_option linter.unusedVariables false
set_option maxHeartbeats 1000000
namespace Go.Ab

/-- What a cell is. -/
inductive CK where
  | int (k : IntKind)
  | str
  | bool

def ckOf (P : Program) (t : TypeId) : Option CK :=
  match P.underlying t with
  | some (.int k) => some (.int k)
  | some .string => some .str
  | some .bool => some .bool
  | _ => none

def fieldsCK (P : Program) : List Field → Nat → Option (List CK)
  | [], _ => some []
  | f :: l, o => if f.name ≠ "_" ∧ f.offset = o then match ckOf P f.type, fieldsCK P l (o + 1) with
    | some c, some cs => some (c :: cs)
    | _, _ => none else none

/-- The cells of a type that '==' tells apart one by one. -/
def eqO (P : Program) (t : TypeId) : Option (List CK) :=
  match P.underlying t with
  | some (.struct fs) => if P.stoodInHeld t = false ∧ P.eqGuardType P.depth t = false then fieldsCK P fs.toList 0 else none
  | some (.array n e) => if P.eqGuardType P.depth t = false ∧ P.cellsOf e = 1 ∧ (P.info? e).isSome = true then (ckOf P e).map (List.replicate n) else none
  | _ => none

/-- Are two rows of cells one? -/
def eqCells : List CK → List D → List D → Option Bool
  | [], [], [] => some true
  | .int k :: c, .p (.lit (.int k1 a)) :: l, .p (.lit (.int k2 b)) :: l' => if k1 = k ∧ k2 = k then (eqCells c l l').map (a == b && ·) else none
  | .str :: c, .p (.lit (.string a)) :: l, .p (.lit (.string b)) :: l' => (eqCells c l l').map (a.toList == b.toList && ·)
  | .bool :: c, .p (.lit (.bool a)) :: l, .p (.lit (.bool b)) :: l' => (eqCells c l l').map (a == b && ·)
  | _, _, _ => none

section
variable {P : Program} (w : World)

theorem ck_plain {t : TypeId} {c : CK} (h : ckOf P t = some c) : P.plainKey t = true := by
  unfold ckOf at h
  unfold Program.plainKey
  split at h <;> simp_all

/-- One cell. -/
theorem ck_cell {t : TypeId} {c : CK} {cs : List CK} {x y : D} {l l' : List D} {b : Bool} {H : HV} {loc : Nat → Loc} {obs : List Ob} {vx vy : Value} (d : Nat) (h : ckOf P t = some c) (he : eqCells (c :: cs) (x :: l) (y :: l') = some b)
    (hx : V H loc obs vx x) (hy : V H loc obs vy y) : ∃ r r', (Op.equalIn (d + 1) t vx vy).run P w = .ok r w ∧ eqCells cs l l' = some r' ∧ b = (r && r') := by
  unfold ckOf at h
  split at h <;> cases h
  · rename_i k hu
    unfold eqCells at he
    split at he
    all_goals first
      | (cases he; done)
      | (rename_i h1 h2 h3; simp at h1; done)
      | skip
    rename_i heq1 heq2 heq3
    simp at heq1 heq2 heq3
    obtain ⟨rfl, rfl⟩ := heq1
    obtain ⟨rfl, rfl⟩ := heq2
    obtain ⟨rfl, rfl⟩ := heq3
    split at he
    · rename_i hk
      obtain ⟨rfl, hk⟩ := hk
      subst hk
      have := hx.lit_inv; subst this
      have := hy.lit_inv; subst this
      cases hr : eqCells cs l l' with
      | none => rw [hr] at he; cases he
      | some r' => rw [hr] at he; cases he; exact ⟨_, r', run_equalIn_int w d t _ _ _ _ hu, rfl, rfl⟩
    · cases he
  · rename_i hu
    unfold eqCells at he
    split at he
    all_goals first
      | (cases he; done)
      | (rename_i h1 h2 h3; simp at h1; done)
      | skip
    rename_i heq1 heq2 heq3
    simp at heq1 heq2 heq3
    subst heq1
    obtain ⟨rfl, rfl⟩ := heq2
    obtain ⟨rfl, rfl⟩ := heq3
    have := hx.lit_inv; subst this
    have := hy.lit_inv; subst this
    cases hr : eqCells cs l l' with
    | none => rw [hr] at he; cases he
    | some r' => rw [hr] at he; cases he; exact ⟨_, r', run_equalIn_string w d t _ _ hu, rfl, rfl⟩
  · rename_i hu
    unfold eqCells at he
    split at he
    all_goals first
      | (cases he; done)
      | (rename_i h1 h2 h3; simp at h1; done)
      | skip
    rename_i heq1 heq2 heq3
    simp at heq1 heq2 heq3
    subst heq1
    obtain ⟨rfl, rfl⟩ := heq2
    obtain ⟨rfl, rfl⟩ := heq3
    have := hx.lit_inv; subst this
    have := hy.lit_inv; subst this
    cases hr : eqCells cs l l' with
    | none => rw [hr] at he; cases he
    | some r' => rw [hr] at he; cases he; exact ⟨_, r', run_equalIn_bool w d t _ _ hu, rfl, rfl⟩

theorem eqCells_cons {c : CK} {cs : List CK} {xs ys : List D} {b : Bool} (h : eqCells (c :: cs) xs ys = some b) : ∃ x l y l', xs = x :: l ∧ ys = y :: l' := by
  unfold eqCells at h
  split at h
  all_goals first
    | (cases h; done)
    | exact ⟨_, _, _, _, rfl, rfl⟩
    | (rename_i h1; simp at h1; done)
    | (rename_i h1 _ _; simp at h1; done)
    | simp_all

theorem eqFields_flat {H : HV} {loc : Nat → Loc} {obs : List Ob} (d : Nat) (vs us : Array Value) (ds es : List D) (hv : ∀ (i : Nat) v d, vs[i]? = some v → ds[i]? = some d → V H loc obs v d) (hu : ∀ (i : Nat) v d, us[i]? = some v → es[i]? = some d → V H loc obs v d)
    (hvn : vs.size = ds.length) (hun : us.size = es.length) : ∀ (fs : List Field) (o : Nat) (cks : List CK) (b : Bool), fieldsCK P fs o = some cks → eqCells cks (ds.drop o) (es.drop o) = some b →
      (Op.eqFields (d + 1) vs us fs).run P w = .ok b w
  | [], o, cks, b, hf, he => by
    simp only [fieldsCK] at hf
    cases hf
    unfold eqCells at he
    split at he
    all_goals first
      | (cases he; rfl)
      | (cases he; done)
      | (rename_i h1 h2 h3; simp at h1; done)
  | f :: fs, o, cks, b, hf, he => by
    simp only [fieldsCK] at hf
    split at hf
    · rename_i hn
      split at hf
      · rename_i c cs hc hcs
        cases hf
        obtain ⟨x, l, y, l', e1, e2⟩ := eqCells_cons he
        have hx : ds[o]? = some x := by have := congrArg (·[0]?) e1; simpa using this
        have hy : es[o]? = some y := by have := congrArg (·[0]?) e2; simpa using this
        have hl : ds.drop (o + 1) = l := by rw [← List.drop_drop, e1]; rfl
        have hl' : es.drop (o + 1) = l' := by rw [← List.drop_drop, e2]; rfl
        have hox : o < ds.length := by rcases Nat.lt_or_ge o ds.length with h | h; exact h; simp [List.getElem?_eq_none h] at hx
        have hoy : o < es.length := by rcases Nat.lt_or_ge o es.length with h | h; exact h; simp [List.getElem?_eq_none h] at hy
        have gx : vs[o]? = some vs[o] := Array.getElem?_eq_getElem (by omega)
        have gy : us[o]? = some us[o] := Array.getElem?_eq_getElem (by omega)
        rw [e1, e2] at he
        obtain ⟨r, r', h1, h2, h3⟩ := ck_cell w d hc he (hv o _ _ gx hx) (hu o _ _ gy hy)
        have ih := eqFields_flat d vs us ds es hv hu hvn hun fs (o + 1) cs r' hcs (by rw [hl, hl']; exact h2)
        have hp := ck_plain hc
        obtain ⟨hn1, rfl⟩ := hn
        simp only [Op.eqFields, if_pos hn1, Sem.run_bind, run_part_plain w hp gx, run_part_plain w hp gy, h1, Result.andThen_ok]
        cases r
        · subst h3; rfl
        · subst h3; simpa using ih
      · cases hf
    · cases hf

theorem eqItems_flat {H : HV} {loc : Nat → Loc} {obs : List Ob} (d : Nat) {e : TypeId} (h1 : P.cellsOf e = 1) {c : CK} (hc : ckOf P e = some c) (vs us : Array Value) (ds es : List D) (hv : ∀ (i : Nat) v d, vs[i]? = some v → ds[i]? = some d → V H loc obs v d) (hu : ∀ (i : Nat) v d, us[i]? = some v → es[i]? = some d → V H loc obs v d)
    (hvn : vs.size = ds.length) (hun : us.size = es.length) : ∀ (n : Nat) (o : Nat) (b : Bool), eqCells (List.replicate n c) (ds.drop o) (es.drop o) = some b →
      (Op.eqItems (d + 1) e (P.cellsOf e) vs us (List.range' o n)).run P w = .ok b w
  | 0, o, b, he => by
    unfold eqCells at he
    simp only [List.replicate_zero] at he
    split at he
    all_goals first
      | (cases he; rfl)
      | (cases he; done)
      | (rename_i h1 h2 h3; simp at h1; done)
  | n + 1, o, b, he => by
    rw [List.replicate_succ] at he
    obtain ⟨x, l, y, l', e1, e2⟩ := eqCells_cons he
    have hx : ds[o]? = some x := by have := congrArg (·[0]?) e1; simpa using this
    have hy : es[o]? = some y := by have := congrArg (·[0]?) e2; simpa using this
    have hl : ds.drop (o + 1) = l := by rw [← List.drop_drop, e1]; rfl
    have hl' : es.drop (o + 1) = l' := by rw [← List.drop_drop, e2]; rfl
    have hox : o < ds.length := by rcases Nat.lt_or_ge o ds.length with h | h; exact h; simp [List.getElem?_eq_none h] at hx
    have hoy : o < es.length := by rcases Nat.lt_or_ge o es.length with h | h; exact h; simp [List.getElem?_eq_none h] at hy
    have gx : vs[o * P.cellsOf e]? = some vs[o] := by rw [h1, Nat.mul_one]; exact Array.getElem?_eq_getElem (by omega)
    have gy : us[o * P.cellsOf e]? = some us[o] := by rw [h1, Nat.mul_one]; exact Array.getElem?_eq_getElem (by omega)
    rw [e1, e2] at he
    obtain ⟨r, r', k1, k2, k3⟩ := ck_cell w d hc he (hv o _ _ (Array.getElem?_eq_getElem (by omega)) hx) (hu o _ _ (Array.getElem?_eq_getElem (by omega)) hy)
    have ih := eqItems_flat d h1 hc vs us ds es hv hu hvn hun n (o + 1) r' (by rw [hl, hl']; exact k2)
    have hp := ck_plain hc
    rw [List.range'_succ]
    simp only [Op.eqItems, Sem.run_bind, run_part_plain w hp gx, run_part_plain w hp gy, k1, Result.andThen_ok]
    cases r
    · subst k3; rfl
    · subst k3; simpa using ih

/-- '==' of two such values. -/
theorem run_eq_agg {H : HV} {loc : Nat → Loc} {obs : List Ob} {t : TypeId} {cks : List CK} {ds es : List D} {b : Bool} {vx vy : Value} (h : eqO P t = some cks) (he : eqCells cks ds es = some b)
    (hx : V H loc obs vx (.agg ds)) (hy : V H loc obs vy (.agg es)) :
    (binOp .eql t vx vy).run P w = .ok (.bool b) w ∧ (binOp .neq t vx vy).run P w = .ok (.bool (!b)) w ∧ ∀ op x y, (eqGuard op t x y vx vy).run P w = .ok () w := by
  cases hx with
  | agg vs _ hvn hv =>
    cases hy with
    | agg us _ hun hu =>
      unfold eqO at h
      split at h
      · rename_i fs hut
        split at h
        · rename_i hg
          have hf : P.fieldsOf t = fs := by unfold Program.fieldsOf; rw [hut]
          have key : (Op.equalIn 10000 t (.agg vs) (.agg us)).run P w = .ok b w := by
            rw [run_equalIn_struct w 9999 t vs us (by rw [hf]; exact hut) hg.1, hf]
            exact eqFields_flat w 9998 vs us ds es hv hu hvn hun fs.toList 0 cks b h he
          refine ⟨?_, ?_, fun op x y => run_eqGuard_agg w op t x y vs us hg.2⟩
          · rw [run_eql_struct, key]; rfl
          · rw [run_neq_struct, key]; rfl
        · cases h
      · rename_i n e hut
        split at h
        · rename_i hg
          cases hc : ckOf P e with
          | none => rw [hc] at h; cases h
          | some c =>
            rw [hc] at h; cases h
            obtain ⟨i, hi⟩ := Option.isSome_iff_exists.1 hg.2.2
            have key : (Op.equalIn 10000 t (.agg vs) (.agg us)).run P w = .ok b w := by
              rw [run_equalIn_array w 9999 vs us hut hi, List.range_eq_range']
              exact eqItems_flat w 9998 hg.2.1 hc vs us ds es hv hu hvn hun n 0 b he
            refine ⟨?_, ?_, fun op x y => run_eqGuard_agg w op t x y vs us hg.1⟩
            · rw [run_eql_struct, key]; rfl
            · rw [run_neq_struct, key]; rfl
        · cases h
      · cases h

end
end Go.Ab
