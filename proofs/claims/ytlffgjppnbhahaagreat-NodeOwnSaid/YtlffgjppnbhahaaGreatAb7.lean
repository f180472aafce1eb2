/- Addresses of fields and elements, lengths, parts of slices, over abstract states. No program is named here. -/
import Derived.Test.YtlffgjppnbhahaaGreatAb6
set_option linter.unusedSimpArgs false
set_option linter.unusedVariables false
set_option maxHeartbeats 1000000
namespace Go.Ab

section
variable {P : Program} {H : HV} {loc : Nat → Loc} {obs : List Ob} {w : World}

/-- A field's address. -/
def fieldD (off : Nat) : D → Option D
  | .ptr id i j => some (.ptr id i (j + off))
  | .rd x j => some (.rd x (j + off))
  | _ => none

theorem field_of {s : TypeId} {f off : Nat} (hf : fdO P s f = some off) {v : Value} {d r : D} (hv : V H loc obs v d) (hd : fieldD off d = some r)
    (hg : ∀ id i j, d = .ptr id i j → ∃ o, obs[id]? = some o ∧ o.live = true) : ∃ u, (∀ w, (Instr.fieldAt s v f).run P w = .ok u w) ∧ V H loc obs u r := by
  have hrun : ∀ b o w, (Instr.fieldAt s (.pointer (some ⟨b, o, none⟩)) f).run P w = .ok (.pointer (some ⟨b, o + off, none⟩)) w := by
    intro b o w
    unfold fdO at hf
    cases hu : P.underlying s with
    | none => rw [hu] at hf; cases hf
    | some dsc =>
      rw [hu] at hf
      cases dsc <;> dsimp only at hf <;> try cases hf
      case struct fs =>
        cases hx : fs[f]? with
        | none => rw [hx] at hf; cases hf
        | some x =>
          rw [hx] at hf
          simp only [Option.bind_some] at hf
          cases hi : P.info? x.type with
          | none => rw [hi] at hf; cases hf
          | some i =>
            rw [hi] at hf
            simp only [Option.bind_some] at hf
            split at hf
            · cases hf
            · rename_i hz
              cases hf
              simp [Instr.fieldAt, run_underlying hu, hx, Instr.sureAddr, fieldPlace, sizeOf, typeInfo, hi, hz, Addr.add_lit]
  cases hv with
  | ptr id i j s' xs ho =>
    cases hd
    exact ⟨_, hrun _ _, by rw [Nat.add_assoc]; exact .ptr id i (j + off) s' xs ho⟩
  | ptrBox id j cs ho =>
    cases hd
    exact ⟨_, hrun _ _, by rw [Nat.add_assoc]; exact .ptrBox id (j + off) cs ho⟩
  | ptrGone v id i j ho =>
    obtain ⟨o, h1, h2⟩ := hg id i j rfl
    rw [ho] at h1; cases h1; cases h2
  | rd b o c x j g hb hc h1 hr =>
    cases hd
    exact ⟨_, hrun _ _, by rw [Nat.add_assoc]; exact .rd b o c x (j + off) g hb hc h1 hr⟩
  | _ => cases hd

/-- Is an object there? -/
def liveAt (obs : List Ob) (id : Nat) : Prop := match obs[id]? with | some o => o.live = true | none => False

theorem liveAt_of {obs : List Ob} {id : Nat} (h : liveAt obs id) : ∃ o, obs[id]? = some o ∧ o.live = true := by
  unfold liveAt at h
  cases ho : obs[id]? with
  | none => rw [ho] at h; exact h.elim
  | some o => rw [ho] at h; exact ⟨o, rfl, h⟩

theorem run_index_slice {t : TypeId} {n m : Nat} (ht : elO P t = some (n, m)) (b o len cap : Nat) (k : IntKind) (i : Int) (h0 : 0 ≤ i) (h1 : i < len) :
    (Instr.indexAt t (.slice (some ⟨b, o, none⟩) len cap) (.int k i)).run P w = .ok (.pointer (some ⟨b, o + i.toNat * n, none⟩)) w := by
  unfold elO at ht
  cases hu : P.underlying t with
  | none => rw [hu] at ht; cases ht
  | some d =>
    rw [hu] at ht
    cases d <;> dsimp only at ht <;> try cases ht
    case slice e =>
      cases hi : P.info? e with
      | none => rw [hi] at ht; cases ht
      | some x =>
        rw [hi] at ht
        simp only [Option.map_some, Option.some.injEq, Prod.mk.injEq] at ht
        obtain ⟨rfl, rfl⟩ := ht
        simp [Instr.indexAt, run_underlying hu, asIntOf, h0, h1, sizeOf, typeInfo, hi, Addr.add_lit]

/-- An element's address. -/
def indexD (obs : List Ob) (n : Nat) (i : Int) (K : D → Prop) : D → Prop
  | .p (.sl xs) => 0 ≤ i ∧ match xs[i.toNat]? with | some x => x.length = n ∧ K (.rd x 0) | none => False
  | .ref id off len => match obs[id]? with | some (.row s _) => s = n ∧ 0 ≤ i ∧ i < (len : Int) ∧ K (.ptr id (off + i.toNat) 0) | _ => False
  | .gref id s off len => match obs[id]? with | some (.box _) => s = n ∧ 0 ≤ i ∧ i < (len : Int) ∧ K (.ptr id 0 ((off + i.toNat) * s)) | _ => False
  | _ => False

theorem index_of {t : TypeId} {n m : Nat} (ht : elO P t = some (n, m)) {v : Value} {d : D} {k : IntKind} {i : Int} {K : D → Prop} (hv : V H loc obs v d) (h : indexD obs n i K d) :
    ∃ u r, (∀ w, (Instr.indexAt t v (.int k i)).run P w = .ok u w) ∧ V H loc obs u r ∧ K r := by
  cases hv with
  | p v x hp =>
    cases hp with
    | lit v => exact h.elim
    | none a cap => simp [indexD] at h
    | sl b o cap s c xs g hb hs hcap hc h1 hr =>
      simp only [indexD] at h
      obtain ⟨h0, h⟩ := h
      cases hx : xs[i.toNat]? with
      | none => rw [hx] at h; exact h.elim
      | some x =>
        rw [hx] at h
        obtain ⟨hl, hk⟩ := h
        have hlt : i.toNat < xs.length := by
          rcases Nat.lt_or_ge i.toNat xs.length with h' | h'
          · exact h'
          · simp [List.getElem?_eq_none h'] at hx
        have hsn : s = n := (hs x (List.mem_of_getElem? hx)).symm.trans hl
        subst hsn
        exact ⟨_, _, fun _ => run_index_slice ht b o _ cap k i h0 (by omega), .rd b (o + i.toNat * s) c x 0 (g i.toNat) hb (fun k y hy => hc _ _ hx _ _ hy) (fun k y hy => h1 _ _ hx _ _ hy) (fun k y hy => hr _ _ hx _ _ hy), hk⟩
  | ref id off len cap s xs ho hl hc hx hr hn =>
    simp only [indexD, ho] at h
    obtain ⟨rfl, h0, h1, hk⟩ := h
    refine ⟨_, _, fun _ => run_index_slice ht _ _ _ cap k i h0 h1, ?_, hk⟩
    rw [show (loc id).o + off * s + i.toNat * s = (loc id).o + (off + i.toNat) * s + 0 by rw [Nat.add_mul]; omega]
    exact .ptr id (off + i.toNat) 0 s xs ho
  | ref0 a id off s xs ho hl =>
    simp only [indexD, ho] at h
    obtain ⟨_, h0, h1, _⟩ := h
    omega
  | refGone v id off len ho => simp only [indexD, ho] at h
  | gref id s off len cap cs ho hl hc =>
    simp only [indexD, ho] at h
    obtain ⟨rfl, h0, h1, hk⟩ := h
    refine ⟨_, _, fun _ => run_index_slice ht _ _ _ cap k i h0 h1, ?_, hk⟩
    rw [show (loc id).o + off * s + i.toNat * s = (loc id).o + (off + i.toNat) * s by rw [Nat.add_mul]; omega]
    exact .ptrBox id ((off + i.toNat) * s) cs ho
  | grefGone v id s off len ho => simp only [indexD, ho] at h
  | _ => exact h.elim

theorem run_index_array {t : TypeId} {n m : Nat} (ht : arO P t = some (n, m)) (b o : Nat) (k : IntKind) (i : Int) (h0 : 0 ≤ i) (h1 : i < n) :
    (Instr.indexAt t (.pointer (some ⟨b, o, none⟩)) (.int k i)).run P w = .ok (.pointer (some ⟨b, o + i.toNat * m, none⟩)) w := by
  unfold arO at ht
  cases hu : P.underlying t with
  | none => rw [hu] at ht; cases ht
  | some d =>
    rw [hu] at ht
    cases d <;> dsimp only at ht <;> try cases ht
    case array len e =>
      cases hi : P.info? e with
      | none => rw [hi] at ht; cases ht
      | some x =>
        rw [hi] at ht
        simp only [Option.map_some, Option.some.injEq, Prod.mk.injEq] at ht
        obtain ⟨rfl, rfl⟩ := ht
        simp [Instr.indexAt, run_underlying hu, asIntOf, Instr.sureAddr, h0, h1, sizeOf, typeInfo, hi, Addr.add_lit]

theorem index_array_of {t : TypeId} {n m : Nat} (ht : arO P t = some (n, m)) {v : Value} {d r : D} {k : IntKind} {i : Int} (hv : V H loc obs v d) (h0 : 0 ≤ i) (h1 : i < n) (hd : fieldD (i.toNat * m) d = some r)
    (hg : ∀ id i j, d = .ptr id i j → ∃ o, obs[id]? = some o ∧ o.live = true) : ∃ u, (∀ w, (Instr.indexAt t v (.int k i)).run P w = .ok u w) ∧ V H loc obs u r := by
  cases hv with
  | ptr id i' j s' xs ho =>
    cases hd
    exact ⟨_, fun _ => run_index_array ht _ _ k i h0 h1, by rw [Nat.add_assoc]; exact .ptr id i' (j + i.toNat * m) s' xs ho⟩
  | ptrBox id j cs ho =>
    cases hd
    exact ⟨_, fun _ => run_index_array ht _ _ k i h0 h1, by rw [Nat.add_assoc]; exact .ptrBox id (j + i.toNat * m) cs ho⟩
  | ptrGone v id i j ho =>
    obtain ⟨o, h1, h2⟩ := hg id i j rfl
    rw [ho] at h1; cases h1; cases h2
  | rd b o c x j g hb hc h1' hr =>
    cases hd
    exact ⟨_, fun _ => run_index_array ht _ _ k i h0 h1, by rw [Nat.add_assoc]; exact .rd b o c x (j + i.toNat * m) g hb hc h1' hr⟩
  | _ => cases hd

/-- A length. -/
def lenD (obs : List Ob) : D → Option Nat
  | .p (.sl xs) => some xs.length
  | .p (.lit (.string s)) => some s.size
  | .nil => some 0
  | .ref id _ len => match obs[id]? with | some (.row _ _) => some len | _ => none
  | .gref id _ _ len => match obs[id]? with | some (.box _) => some len | _ => none
  | _ => none

theorem len_of {t ty : TypeId} (ht : (∃ e, P.underlying t = some (.slice e)) ∨ P.underlying t = some .string) {v : Value} {d : D} {n : Nat} (hv : V H loc obs v d) (hd : lenD obs d = some n)
    (hk : (∃ e, P.underlying t = some (.slice e)) ↔ (∀ s, d ≠ .p (.lit (.string s)))) : (Builtin.len_ #[t] ty #[v]).run P w = .ok (.int .i64 n) w := by
  have hsl : ∀ a len cap, (∃ e, P.underlying t = some (.slice e)) → (Builtin.len_ #[t] ty #[.slice a len cap]).run P w = .ok (.int .i64 len) w := by
    rintro a len cap ⟨e, hu⟩
    simp [Builtin.len_, run_underlying hu, goInt]
  cases hv with
  | p v x hp =>
    cases hp with
    | lit v =>
      cases v with
      | string s =>
        cases hd
        rcases ht with ⟨e, hu⟩ | hu
        · exact absurd rfl ((hk.1 ⟨e, hu⟩) s)
        · simp [Builtin.len_, run_underlying hu, goInt]
      | _ => cases hd
    | none a cap => cases hd; exact hsl _ _ _ (hk.2 (by simp))
    | sl b o cap s c xs g hb hs hcap hc h1 hr => cases hd; exact hsl _ _ _ (hk.2 (by simp))
  | nil => cases hd; exact hsl _ _ _ (hk.2 (by simp))
  | ref id off len cap s xs ho hl hc hx hr hn => simp only [lenD, ho] at hd; cases hd; exact hsl _ _ _ (hk.2 (by simp))
  | ref0 a id off s xs ho hl => simp only [lenD, ho] at hd; cases hd; exact hsl _ _ _ (hk.2 (by simp))
  | refGone v id off len ho => simp only [lenD, ho] at hd; cases hd
  | gref id s off len cap cs ho hl hc => simp only [lenD, ho] at hd; cases hd; exact hsl _ _ _ (hk.2 (by simp))
  | grefGone v id s off len ho => simp only [lenD, ho] at hd; cases hd
  | _ => cases hd

end
end Go.Ab
