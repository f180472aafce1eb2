/- A heap of objects: what At and Objects answer. -/
import Derived.Test.YtagphggcdmjlpaaH8
set_option linter.unusedSimpArgs false
set_option linter.unusedVariables false
set_option maxHeartbeats 1000000
namespace Go.Proofs.Ytagphggcdmjlpaa.P
open Go.Ab

abbrev NumOk (n : Int) : Prop := -9223372036854775808 ≤ n ∧ n ≤ 9223372036854775807

/-- An object at another place. -/
def Obj.to (o : Obj) (a : Nat) : Obj := ⟨a, o.kind, o.num, o.text, o.parts⟩

theorem put_nil {o : Obj} (h : rightS o = true) : putS [] o = (encW o, 0, 0) := by
  obtain ⟨h1, h2⟩ := right_small h
  have hr : roomN o.kind o.text.size o.parts.length ≤ 500 := by
    unfold roomN
    split <;> omega
  unfold putS
  rw [h, if_neg (by simp), if_neg (by simp; omega)]
  rfl

theorem num_back {n : Int} (h : NumOk n) : IntKind.i64.wrap (IntKind.u64.wrap n) = n := by
  rw [IntKind.wrap_u64]
  simp only [IntKind.wrap, IntKind.bits, IntKind.signed]
  simp
  obtain ⟨h1, h2⟩ := h
  omega

theorem obj_dec (pre1 post : List Int) (o : Obj) (n : Nat) (k num : Int) : objO (pre1 ++ (textW o.text ++ (o.parts ++ post))) n k num o.text.size o.parts.length pre1.length = ⟨n, k, num, o.text, o.parts⟩ := by
  unfold objO
  rw [bytes_dec, pushB_bytes]
  have : List.drop (pre1.length + (o.text.size + 7) / 8) (pre1 ++ (textW o.text ++ (o.parts ++ post))) = o.parts ++ post := by
    rw [← List.drop_drop, List.drop_left]
    have hl : (o.text.size + 7) / 8 = (textW o.text).length := by unfold textW; rw [textF_len]
    rw [hl, List.drop_left]
  rw [this, List.take_left]

theorem at_enc (pre post : List Int) (o : Obj) (hr : rightS o = true) (hn : NumOk o.num) : atS (pre ++ (encW o ++ post)) pre.length = (o.to pre.length, 0) := by
  obtain ⟨d1, d2, d3, d4⟩ := head_dec hr
  have hel := enc_len o
  have hput := put_nil (o := o.to pre.length) hr
  have henc : encW (o.to pre.length) = encW o := rfl
  rw [henc] at hput
  have hlen : (pre ++ (encW o ++ post)).length = pre.length + (encW o).length + post.length := by simp; omega
  have hpos : 1 ≤ (encW o).length := by simp [encW]
  have hget : (pre ++ (encW o ++ post))[pre.length]? = some (headS o) := by
    rw [List.getElem?_append_right (Nat.le_refl _), Nat.sub_self]; rfl
  have hcut : ∀ m, m = (encW o).length → ((pre ++ (encW o ++ post)).drop pre.length).take m = encW o := fun m hm => by
    rw [List.drop_left, hm, List.take_left]
  have hat : ∀ m, m = (encW o).length → atO (pre ++ (encW o ++ post)) pre.length (o.to pre.length) m = (o.to pre.length, 0) := fun m hm => by
    unfold atO
    rw [hcut m hm, hput, (listEq_iff eqI_iff).2 rfl]
    rfl
  unfold atS
  rw [if_neg (by simp; omega), Int.toNat_natCast, hget]
  simp only
  rw [d1, d2, d3, d4, Int.toNat_natCast, Int.toNat_natCast, ← hel, if_neg (by simp; omega)]
  have hroom := hel
  unfold roomN at hroom
  unfold atR
  by_cases hk : numK o.kind = true
  · rw [if_pos hk]
    rw [if_pos hk] at hroom
    have hnw : numW o = [IntKind.u64.wrap o.num] := by unfold numW; rw [if_pos hk]
    have hsh : pre ++ (encW o ++ post) = (pre ++ [headS o, IntKind.u64.wrap o.num]) ++ (textW o.text ++ (o.parts ++ post)) := by
      unfold encW; rw [hnw]; simp
    have hg1 : (pre ++ (encW o ++ post)).getD (pre.length + 1) 0 = IntKind.u64.wrap o.num := by
      unfold List.getD encW
      rw [hnw, List.getElem?_append_right (by omega), Nat.add_sub_cancel_left]; rfl
    have hl2 : pre.length + 2 = (pre ++ [headS o, IntKind.u64.wrap o.num]).length := by simp
    have hob : objO (pre ++ (encW o ++ post)) pre.length o.kind (IntKind.i64.wrap ((pre ++ (encW o ++ post)).getD (pre.length + 1) 0)) o.text.size o.parts.length (pre.length + 2) = o.to pre.length := by
      rw [hg1, num_back hn, hsh, hl2, obj_dec]; rfl
    rw [hob]
    exact hat _ (by omega)
  · rw [if_neg hk]
    rw [if_neg hk] at hroom
    have hnw : numW o = [] := by unfold numW; rw [if_neg hk]
    have hn0 : o.num = 0 := by
      unfold rightS at hr
      unfold numK at hk
      simp only [Bool.or_eq_true, beq_iff_eq, not_or] at hk
      simp only [Bool.and_eq_true, Bool.not_eq_true', Bool.and_eq_false_imp] at hr
      have := hr.2.2.2.1 (by simp [hk.1, hk.2])
      simpa using this
    have hsh : pre ++ (encW o ++ post) = (pre ++ [headS o]) ++ (textW o.text ++ (o.parts ++ post)) := by
      unfold encW; rw [hnw]; simp
    have hl2 : pre.length + 1 = (pre ++ [headS o]).length := by simp
    have hob : objO (pre ++ (encW o ++ post)) pre.length o.kind 0 o.text.size o.parts.length (pre.length + 1) = o.to pre.length := by
      rw [hsh, hl2, obj_dec, ← hn0]; rfl
    rw [hob]
    exact hat _ (by omega)

/-- The words of objects, one behind the other; and the objects at their places. -/
def flat : List Obj → List Int
  | [] => []
  | o :: l => encW o ++ flat l
def place : Nat → List Obj → List Obj
  | _, [] => []
  | a, o :: l => o.to a :: place (a + (encW o).length) l

theorem place_len : ∀ (a : Nat) (l : List Obj), (place a l).length = l.length
  | _, [] => rfl
  | a, o :: l => by rw [place, List.length_cons, place_len, List.length_cons]

theorem flat_append (l m : List Obj) : flat (l ++ m) = flat l ++ flat m := by
  induction l with
  | nil => rfl
  | cons o l ih => show encW o ++ flat (l ++ m) = _; rw [ih, ← List.append_assoc]; rfl

theorem objF_flat : ∀ (l : List Obj) (pre : List Int) (f : Nat) (acc : List Obj), (∀ o, o ∈ l → rightS o = true ∧ NumOk o.num) → (flat l).length < f →
    objF (pre ++ flat l) f pre.length acc = (acc ++ place pre.length l, 0)
  | [], pre, f + 1, acc, _, _ => by
    unfold objF
    rw [if_neg (by simp [flat])]
    simp [place]
  | o :: l, pre, f + 1, acc, h, hf => by
    obtain ⟨hr, hn⟩ := h o List.mem_cons_self
    have hpos : 1 ≤ (encW o).length := by simp [encW]
    have hat := at_enc pre (flat l) o hr hn
    have hfl : (flat (o :: l)).length = (encW o).length + (flat l).length := by show (encW o ++ flat l).length = _; rw [List.length_append]
    unfold objF
    rw [if_pos (by rw [List.length_append]; omega)]
    show (if (atS (pre ++ (encW o ++ flat l)) pre.length).2 != 0 then _ else objF (pre ++ (encW o ++ flat l)) f (pre.length + roomN (atS (pre ++ (encW o ++ flat l)) pre.length).1.kind (atS (pre ++ (encW o ++ flat l)) pre.length).1.text.size (atS (pre ++ (encW o ++ flat l)) pre.length).1.parts.length) (acc ++ [(atS (pre ++ (encW o ++ flat l)) pre.length).1])) = _
    rw [hat]
    simp only [Obj.to]
    rw [if_neg (by simp), ← enc_len o]
    have ih := objF_flat l (pre ++ encW o) f (acc ++ [o.to pre.length]) (fun x hx => h x (List.mem_cons_of_mem _ hx)) (by omega)
    rw [List.length_append, List.append_assoc] at ih
    rw [show (⟨(pre.length : Int), o.kind, o.num, o.text, o.parts⟩ : Obj) = o.to pre.length from rfl, ih]
    simp [place]

theorem objs_flat {l : List Obj} (h : ∀ o, o ∈ l → rightS o = true ∧ NumOk o.num) (h4 : (flat l).length ≤ 4000) : objsS (flat l) = (place 0 l, 0) := by
  unfold objsS
  rw [if_neg (by simp; omega)]
  have := objF_flat l [] ((flat l).length + 1) [] h (by omega)
  simpa using this

theorem chain_flat {h : List Int} : ∀ {l : List Obj} {a : Nat}, Chain h a l → h.drop a = flat l
  | [], a, hc => by have : a = h.length := hc; rw [this, List.drop_length]; rfl
  | o :: l, a, hc => by
    obtain ⟨_, _, h1, h2, h3⟩ := hc
    have ih := chain_flat h3
    show _ = encW o ++ flat l
    rw [← ih, ← List.drop_drop]
    conv => rhs; rw [h1]
    rw [List.length_take, List.length_drop, Nat.min_eq_left (by omega), List.take_append_drop]
end Go.Proofs.Ytagphggcdmjlpaa.P
