/- Parts of slices over abstract states. No program is named here. -/
import Derived.Test.YtlffgjppnbhahaaGreatAb12
set_option linter.unusedSimpArgs false
set_option linter.unusedVariables false
set_option maxHeartbeats 1000000
namespace Go.Ab

section
variable {P : Program} {H : HV} {loc : Nat → Loc} {obs : List Ob} {w : World}

/-- A bound that is not given, or is a whole number. -/
def boundD : Option D → Option (Option Int)
  | none => some none
  | some (.p (.lit (.int .i64 n))) => some (some n)
  | _ => none

/-- The part of a slice from l to h. -/
def partD (obs : List Ob) (lo hi mx : Option Int) (x : D) (K : D → Prop) : Prop :=
  match x with
  | .p (.sl xs) =>
    match mx with
    | none => 0 ≤ lo.getD 0 ∧ lo.getD 0 ≤ hi.getD xs.length ∧ hi.getD xs.length ≤ (xs.length : Int) ∧ K (.p (.sl ((xs.take (hi.getD xs.length).toNat).drop (lo.getD 0).toNat)))
    | some _ => False
  | .nil => lo.getD 0 = 0 ∧ hi.getD 0 = 0 ∧ mx = none ∧ K .nil
  | .ref id off len =>
    match obs[id]?, mx with
    | some (.row _ xs), none => 0 ≤ lo.getD 0 ∧ lo.getD 0 ≤ hi.getD len ∧ off + (hi.getD len).toNat ≤ xs.length ∧ (hi.getD len).toNat ≤ max len (xs.length - off) ∧
        K (.ref id (off + (lo.getD 0).toNat) ((hi.getD len).toNat - (lo.getD 0).toNat))
    | some (.row _ _), some m => (match lo, hi with | some l, some h => 0 ≤ l ∧ l ≤ h ∧ h ≤ m ∧ m ≤ (len : Int) ∧ K .none | _, _ => False)
    | _, _ => False
  | _ => False

/-- What the model's slicing comes to. -/
theorem run_slice_val {t e : TypeId} {i : TypeInfo} (hu : P.underlying t = some (.slice e)) (hi : P.info? e = some i) (a : Option Addr) (len cap : Nat) (lo hi' : Option Int) (l h : Nat)
    (hl : (lo.getD 0) = l) (hh : hi'.getD len = h) (h1 : l ≤ h) (h2 : h ≤ cap) :
    (Instr.sliceAt t (.slice a len cap) (lo.map (.int .i64)) (hi'.map (.int .i64)) none).run P w = .ok (.slice (if cap = l then a else a.map (·.add (l * i.size))) (h - l) (cap - l)) w := by
  have hsz : ∀ W, (sizeOf e).run P W = .ok i.size W := fun W => by simp [sizeOf, typeInfo, hi]
  have b1 : ∀ (n : Int) (y : Nat) (c : BoundsCode) (m : Nat), n = m → m ≤ y → (Instr.sliceBound (.int .i64 n) y c).run P w = .ok m w := fun n y c m e hm => by
    subst e
    simp [Instr.sliceBound, asIntOf, hm]
  cases lo with
  | none =>
    obtain rfl : l = 0 := by simp at hl; omega
    cases hi' with
    | none =>
      obtain rfl : h = len := by simp at hh; omega
      simp [Instr.sliceAt, Instr.slice, run_underlying hu, Instr.sliceBounds, hsz]
    | some n =>
      simp at hh
      simp [Instr.sliceAt, Instr.slice, run_underlying hu, Instr.sliceBounds, hsz, b1 n cap .sliceAcap h hh h2]
  | some m =>
    simp at hl
    cases hi' with
    | none =>
      obtain rfl : h = len := by simp at hh; omega
      simp [Instr.sliceAt, Instr.slice, run_underlying hu, Instr.sliceBounds, hsz, b1 m h .sliceB l hl h1]
    | some n =>
      simp at hh
      simp [Instr.sliceAt, Instr.slice, run_underlying hu, Instr.sliceBounds, hsz, b1 n cap .sliceAcap h hh h2, b1 m h .sliceB l hl h1]

/-- With three bounds: that it goes through is all that is told. -/
theorem run_slice3 {t e : TypeId} {i : TypeInfo} (hu : P.underlying t = some (.slice e)) (hi : P.info? e = some i) (a : Option Addr) (len cap : Nat) (l h m : Int) (h0 : 0 ≤ l) (h1 : l ≤ h) (h2 : h ≤ m) (h3 : m ≤ (cap : Int)) :
    ∃ u, (Instr.sliceAt t (.slice a len cap) (some (.int .i64 l)) (some (.int .i64 h)) (some (.int .i64 m))).run P w = .ok u w := by
  have hsz : ∀ W, (sizeOf e).run P W = .ok i.size W := fun W => by simp [sizeOf, typeInfo, hi]
  have b1 : ∀ (n : Int) (y : Nat) (c : BoundsCode) (m : Nat), n = m → m ≤ y → (Instr.sliceBound (.int .i64 n) y c).run P w = .ok m w := fun n y c m e hm => by
    subst e
    simp [Instr.sliceBound, asIntOf, hm]
  obtain ⟨l, rfl⟩ := Int.eq_ofNat_of_zero_le h0
  obtain ⟨h, rfl⟩ := Int.eq_ofNat_of_zero_le (Int.le_trans h0 h1)
  obtain ⟨m, rfl⟩ := Int.eq_ofNat_of_zero_le (Int.le_trans (Int.le_trans h0 h1) h2)
  refine ⟨.slice (if m = l then a else a.map (·.add (l * i.size))) (h - l) (m - l), ?_⟩
  simp [Instr.sliceAt, Instr.slice, run_underlying hu, Instr.sliceBounds, hsz, b1 m cap .slice3Acap m rfl (by omega), b1 h m .slice3B h rfl (by omega), b1 l h .slice3C l rfl (by omega)]

theorem part_of {t : TypeId} {s nb : Nat} (ht : elO P t = some (s, nb)) {v : Value} {d : D} {lo hi mx : Option Int} {K : D → Prop} (hv : V H loc obs v d) (h : partD obs lo hi mx d K)
    (hrow : ∀ id off len s' xs, d = .ref id off len → obs[id]? = some (.row s' xs) → s' = s) (hrow2 : ∀ xs, d = .p (.sl xs) → ∀ x, x ∈ xs → x.length = s) :
    ∃ u r, (Instr.sliceAt t v (lo.map (.int .i64)) (hi.map (.int .i64)) (mx.map (.int .i64))).run P w = .ok u w ∧ V H loc obs u r ∧ K r := by
  unfold elO at ht
  cases hu : P.underlying t with
  | none => rw [hu] at ht; cases ht
  | some dsc =>
    rw [hu] at ht
    cases dsc <;> dsimp only at ht <;> try cases ht
    case slice e =>
      cases hi' : P.info? e with
      | none => rw [hi'] at ht; cases ht
      | some i =>
        rw [hi'] at ht
        simp only [Option.map_some, Option.some.injEq, Prod.mk.injEq] at ht
        obtain ⟨rfl, rfl⟩ := ht
        cases hv with
        | p v x hp =>
          cases hp with
          | lit => exact h.elim
          | none a cap =>
            simp only [partD] at h
            cases mx with
            | some _ => exact h.elim
            | none =>
              obtain ⟨h0, h1, h2, hK⟩ := h
              simp at h2
              have e1 : lo.getD 0 = ((0 : Nat) : Int) := by simp at h1; omega
              have e2 : hi.getD ((0 : Nat) : Int) = ((0 : Nat) : Int) := by simp at h1 h2 ⊢; omega
              refine ⟨_, _, run_slice_val hu hi' a 0 cap lo hi 0 0 e1 e2 (Nat.le_refl _) (Nat.zero_le _), ?_, hK⟩
              simp only [List.take_nil, List.drop_nil, Nat.sub_zero]
              exact .p _ _ (.none _ _)
          | sl b o cap s' c xs g hb hs hcap hc h1' hr =>
            simp only [partD] at h
            cases mx with
            | some _ => exact h.elim
            | none =>
              obtain ⟨h0, h1, h2, hK⟩ := h
              have e1 : lo.getD 0 = ((lo.getD 0).toNat : Int) := by omega
              have e2 : hi.getD (xs.length : Int) = ((hi.getD xs.length).toNat : Int) := by omega
              generalize (lo.getD 0).toNat = l at *
              generalize (hi.getD (xs.length : Int)).toNat = hh at *
              have hlh : l ≤ hh := by omega
              have hhx : hh ≤ xs.length := by omega
              refine ⟨_, _, run_slice_val hu hi' _ xs.length cap lo hi l hh e1 e2 hlh (by omega), ?_, hK⟩
              by_cases hempty : hh = l
              · have : (xs.take hh).drop l = [] := List.eq_nil_of_length_eq_zero (by simp; omega)
                rw [this, hempty, Nat.sub_self]
                exact .p _ _ (.none _ _)
              · have hne : ¬ cap = l := by omega
                rw [if_neg hne]
                simp only [Option.map_some, Addr.add_lit]
                have hlen : ((xs.take hh).drop l).length = hh - l := by simp; omega
                have hs' : s' = i.size := by
                  cases xs with
                  | nil => simp at hhx; omega
                  | cons x xs => rw [← hs x (by simp), hrow2 _ rfl x (by simp)]
                subst hs'
                have hget : ∀ (k : Nat) x, ((xs.take hh).drop l)[k]? = some x → xs[l + k]? = some x := fun k x hk => by
                  rw [List.getElem?_drop, List.getElem?_take] at hk
                  split at hk
                  · exact hk
                  · cases hk
                have := PVr.sl (H := H) b (o + l * i.size) (cap - l) i.size c ((xs.take hh).drop l) (fun k j => g (l + k) j) hb
                  (fun x hx => hs x (List.mem_of_mem_take (List.mem_of_mem_drop hx))) (by omega)
                  (fun k x hk j y hy => by
                    have := hc (l + k) x (hget k x hk) j y hy
                    rw [show o + l * i.size + k * i.size + j = o + (l + k) * i.size + j by rw [Nat.add_mul]; omega]; exact this)
                  (fun k x hk j y hy => h1' (l + k) x (hget k x hk) j y hy) (fun k x hk j y hy => hr (l + k) x (hget k x hk) j y hy)
                rw [hlen] at this
                exact .p _ _ this
        | nil =>
          simp only [partD] at h
          obtain ⟨h0, h1, rfl, hK⟩ := h
          refine ⟨_, _, run_slice_val hu hi' none 0 0 lo hi 0 0 (by simpa using h0) (by simpa using h1) (Nat.le_refl _) (Nat.le_refl _), ?_, hK⟩
          exact .nil
        | ref id off len cap s' xs ho hl hc hxc hlr hn =>
          simp only [partD, ho] at h
          cases mx with
          | some m =>
            cases lo with
            | none => exact h.elim
            | some l =>
              cases hi with
              | none => exact h.elim
              | some hh =>
                obtain ⟨h0, h1, h2, h3, hK⟩ := h
                obtain ⟨u, hu2⟩ := run_slice3 (w := w) hu hi' (some ⟨(loc id).b, (loc id).o + off * s', none⟩) len cap l hh m h0 h1 h2 (by omega)
                exact ⟨u, .none, hu2, .none _, hK⟩
          | none =>
            obtain ⟨h0, h1, h2, h3, hK⟩ := h
            have hs' := hrow id off len s' xs rfl ho
            subst hs'
            have e1 : lo.getD 0 = ((lo.getD 0).toNat : Int) := by omega
            have e2 : hi.getD (len : Int) = ((hi.getD len).toNat : Int) := by omega
            generalize (lo.getD 0).toNat = l at *
            generalize (hi.getD (len : Int)).toNat = hh at *
            have hlh : l ≤ hh := by omega
            have hhc : hh ≤ cap := by omega
            refine ⟨_, _, run_slice_val hu hi' _ len cap lo hi l hh e1 e2 hlh hhc, ?_, hK⟩
            by_cases hcl : cap = l
            · rw [if_pos hcl]
              have z1 : hh - l = 0 := by omega
              have z2 : cap - l = 0 := by omega
              rw [z1, z2]
              exact .ref0 _ id (off + l) i.size xs ho (by omega)
            · rw [if_neg hcl]
              simp only [Option.map_some, Addr.add_lit]
              have := V.ref (H := H) (loc := loc) (obs := obs) id (off + l) (hh - l) (cap - l) i.size xs ho (by omega) (by omega) (by omega) hlr (by
                rw [show off + l + (cap - l) = off + cap by omega]; exact hn)
              rw [show (loc id).o + off * i.size + l * i.size = (loc id).o + (off + l) * i.size by rw [Nat.add_mul]; omega]
              exact this
        | ref0 a id off s' xs ho hl =>
          simp only [partD, ho] at h
          cases mx with
          | some m =>
            cases lo with
            | none => exact h.elim
            | some l =>
              cases hi with
              | none => exact h.elim
              | some hh =>
                obtain ⟨h0, h1, h2, h3, hK⟩ := h
                obtain ⟨u, hu2⟩ := run_slice3 (w := w) hu hi' a 0 0 l hh m h0 h1 h2 (by omega)
                exact ⟨u, .none, hu2, .none _, hK⟩
          | none =>
            obtain ⟨h0, h1, h2, h3, hK⟩ := h
            have e1 : lo.getD 0 = ((lo.getD 0).toNat : Int) := by omega
            have e2 : hi.getD ((0 : Nat) : Int) = ((hi.getD ((0 : Nat) : Int)).toNat : Int) := by omega
            generalize (lo.getD 0).toNat = l at *
            generalize (hi.getD ((0 : Nat) : Int)).toNat = hh at *
            have z1 : hh = 0 := by omega
            have z2 : l = 0 := by omega
            subst z1; subst z2
            refine ⟨_, _, run_slice_val hu hi' a 0 0 lo hi 0 0 e1 e2 (Nat.le_refl _) (Nat.le_refl _), ?_, hK⟩
            exact .ref0 _ id (off + 0) s' xs ho (by omega)
        | refGone v id off len ho => simp only [partD, ho] at h
        | _ => exact h.elim

end
end Go.Ab
