/- Texts of this proof, joined: Y22, Y18, Y19, Y23, Y24, H16, Y25, O2, R1, R2, R3, R4, R5, R6, R14, R15, R16, O3, O4. -/
import Derived.Test.YtagphggcdmjlpaaKHeapOwn4
import Derived.Laws.Strings
import Derived.Laws.IdiomRangeMap
set_option linter.unusedSimpArgs false
set_option linter.unusedVariables false
set_option maxHeartbeats 1000000
/- Objects that are put behind, and parts that are set: plain facts for the copier. -/
namespace Go.Proofs.Ytagphggcdmjlpaa.P
open Go.Ab Go.Proofs.Ytagphggcdmjlpaa.T

/-- An object with one part set. -/
def setPart (x : Obj) (i : Nat) (w : Int) : Obj := { x with parts := x.parts.set i w }

theorem head_len {x : Obj} {ps : List Int} (h : ps.length = x.parts.length) : headS { x with parts := ps } = headS x := by
  unfold headS
  simp only [h]

theorem right_len {x : Obj} {ps : List Int} (h : ps.length = x.parts.length) : rightS { x with parts := ps } = rightS x := by
  unfold rightS
  simp only [h]

theorem enc_setPart (x : Obj) (i : Nat) (w : Int) : encW (setPart x i w) = (encW x).set ((encW x).length - x.parts.length + i) w ∧ (encW (setPart x i w)).length = (encW x).length := by
  have hl : (x.parts.set i w).length = x.parts.length := List.length_set
  have h1 : encW (setPart x i w) = headS x :: (numW x ++ (textW x.text ++ x.parts.set i w)) := by
    unfold encW setPart
    rw [head_len hl]
    rfl
  constructor
  · rw [h1]
    unfold encW
    have e : ((headS x :: (numW x ++ (textW x.text ++ x.parts))).length - x.parts.length + i) = ((numW x).length + (textW x.text).length + i) + 1 := by simp; omega
    rw [e, List.set_cons_succ, List.set_append_right _ _ (by omega), List.set_append_right _ _ (by omega)]
    have : (numW x).length + (textW x.text).length + i - (numW x).length - (textW x.text).length = i := by omega
    rw [this]
  · rw [h1]; unfold encW; simp

theorem place_ge : ∀ {L : List Obj} {a : Nat} {x : Obj}, x ∈ place a L → (a : Int) ≤ x.at_
  | [], _, _, h => by cases h
  | o :: L, a, x, h => by
    rcases List.mem_cons.1 h with rfl | h
    · exact Int.le_refl _
    · have := place_ge h; omega

/-- What lies ahead of an object, and what behind it. -/
theorem placed_parts {P Q : List Obj} {o : Obj} (hL : Placed (P ++ o :: Q)) : o.at_ = (flat P).length ∧ Placed P ∧ (∀ x, x ∈ Q → o.at_ + (encW o).length ≤ x.at_) ∧ place ((flat P).length + (encW o).length) Q = Q := by
  have h1 := hL.1
  rw [place_append] at h1
  obtain ⟨h2, h3⟩ := List.append_inj h1 (place_len _ _)
  have h4 : o.to (0 + (flat P).length) :: place (0 + (flat P).length + (encW o).length) Q = o :: Q := h3
  obtain ⟨h5, h6⟩ := List.cons.inj h4
  have ha : o.at_ = (flat P).length := by rw [← h5]; show ((0 + (flat P).length : Nat) : Int) = _; rw [Nat.zero_add]
  rw [Nat.zero_add] at h6
  refine ⟨ha, ⟨h2, fun x hx => hL.2 x (List.mem_append_left _ hx)⟩, fun x hx => ?_, h6⟩
  rw [← h6] at hx
  have := place_ge hx
  omega

theorem placed_setPart {P Q : List Obj} {x : Obj} {i : Nat} {w : Int} (hL : Placed (P ++ x :: Q)) (hw : WordOk w) (hi : i < x.parts.length) :
    Placed (P ++ setPart x i w :: Q) ∧ flat (P ++ setPart x i w :: Q) = (flat (P ++ x :: Q)).set ((flat P).length + (encW x).length - x.parts.length + i) w := by
  obtain ⟨ha, hP, hQ, hq⟩ := placed_parts hL
  obtain ⟨e1, e2⟩ := enc_setPart x i w
  have hk := hL.2 x (by simp)
  have hpl : x.parts.length ≤ (encW x).length := by unfold encW; simp; omega
  refine ⟨⟨?_, fun y hy => ?_⟩, ?_⟩
  · rw [place_append, hP.1]
    show P ++ (setPart x i w).to (0 + (flat P).length) :: place (0 + (flat P).length + (encW (setPart x i w)).length) Q = _
    rw [e2, Nat.zero_add, hq]
    have : (setPart x i w).to (flat P).length = setPart x i w := by
      unfold Obj.to setPart; simp only [← ha]
    rw [this]
  · rcases List.mem_append.1 hy with hy | hy
    · exact hL.2 y (List.mem_append_left _ hy)
    · rcases List.mem_cons.1 hy with rfl | hy
      · refine ⟨by unfold setPart; rw [right_len List.length_set]; exact hk.1, hk.2.1, fun v hv => ?_⟩
        rcases List.mem_or_eq_of_mem_set hv with h | rfl
        · exact hk.2.2 v h
        · exact hw
      · exact hL.2 y (List.mem_append_right _ (List.mem_cons_of_mem _ hy))
  · rw [flat_append, flat_append]
    show flat P ++ (encW (setPart x i w) ++ flat Q) = (flat P ++ (encW x ++ flat Q)).set _ w
    rw [e1, List.set_append_right _ _ (by omega)]
    have e3 : (flat P).length + (encW x).length - x.parts.length + i - (flat P).length = (encW x).length - x.parts.length + i := by omega
    rw [e3]
    rw [List.set_append_left _ _ (by omega)]

theorem placed_snoc {T : List Obj} {o : Obj} (hT : Placed T) (ho : ObjOk o) : Placed (T ++ [o.to (flat T).length]) ∧ flat (T ++ [o.to (flat T).length]) = flat T ++ encW o := by
  refine ⟨⟨?_, fun x hx => ?_⟩, ?_⟩
  · rw [place_append, hT.1, Nat.zero_add]; rfl
  · rcases List.mem_append.1 hx with hx | hx
    · exact hT.2 x hx
    · rcases List.mem_singleton.1 hx with rfl; exact ho
  · rw [flat_append]
    show flat T ++ (encW o ++ []) = _
    rw [List.append_nil]

/-- How many words are left to be copied. -/
def restN (f : Obj → Bool) : List Obj → Nat
  | [] => 0
  | o :: l => (if f o then (encW o).length else 0) + restN f l

theorem rest_append (f : Obj → Bool) : ∀ (l m : List Obj), restN f (l ++ m) = restN f l + restN f m
  | [], m => by simp [restN]
  | o :: l, m => by show _ + restN f (l ++ m) = _ + _ + _; rw [rest_append f l m]; omega

theorem rest_congr {f g : Obj → Bool} : ∀ {l : List Obj}, (∀ o, o ∈ l → f o = g o) → restN f l = restN g l
  | [], _ => rfl
  | o :: l, h => by
    show _ + restN f l = _ + restN g l
    rw [h o List.mem_cons_self, rest_congr fun x hx => h x (List.mem_cons_of_mem _ hx)]

theorem rest_one {L : List Obj} {o : Obj} {f g : Obj → Bool} (hL : Placed L) (ho : o ∈ L) (h1 : f o = true) (h2 : g o = false) (h3 : ∀ x, x ∈ L → x.at_ ≠ o.at_ → f x = g x) : restN f L = restN g L + (encW o).length := by
  obtain ⟨P, Q, rfl, ha⟩ := placed_split hL ho
  obtain ⟨_, hP, hQ, _⟩ := placed_parts hL
  have hpos : 1 ≤ (encW o).length := by simp [encW]
  have a1 : restN f P = restN g P := rest_congr fun x hx => h3 x (List.mem_append_left _ hx) (by
    obtain ⟨n, e1, e2⟩ := placed_len hP hx
    have : 1 ≤ (encW x).length := by simp [encW]
    omega)
  have a2 : restN f Q = restN g Q := rest_congr fun x hx => h3 x (List.mem_append_right _ (List.mem_cons_of_mem _ hx)) (by
    have := hQ x hx; omega)
  rw [rest_append, rest_append, a1]
  show _ + ((if f o then _ else _) + restN f Q) = _ + ((if g o then _ else _) + restN g Q) + _
  rw [h1, h2, a2]
  simp; omega

end Go.Proofs.Ytagphggcdmjlpaa.P

/- A cell that is set, in plain words. -/
namespace Go.Proofs.Ytagphggcdmjlpaa.P
open Go.Ab Go.Proofs.Ytagphggcdmjlpaa.T

theorem right_text {o : Obj} (h : rightS o = true) (hk : o.kind = 5) : o.text = ByteArray.empty := by
  unfold rightS at h
  simp only [hk, Bool.and_eq_true, Bool.not_eq_true', Bool.and_eq_false_iff, bne_self_eq_false] at h
  obtain ⟨_, _, h3, _⟩ := h
  have h3 : (o.text.toList == (⟨#[]⟩ : ByteArray).toList) = true := by
    rcases h3 with h3 | h3
    · simp at h3
    · simpa using h3
  generalize o.text = t at h3
  rw [ByteArray.toList_eq, ByteArray.toList_eq] at h3
  have h3 : t.data.toList = [] := by simpa using h3
  obtain ⟨d⟩ := t
  have : d = #[] := by simpa using h3
  subst this
  rfl

theorem enc_cell {o : Obj} {p : Int} (hr : rightS o = true) (hk : o.kind = 5) (hp : o.parts = [p]) : encW o = [headS o, p] := by
  unfold encW numW
  rw [right_text hr hk, hp, hk]
  rfl

/-- Rising places: where one goes in. -/
theorem rising_of {l : List Int} (h : l.Pairwise (· < ·)) (n : Int) : Rising (fun x : Int => x - n) l := fun i j x y hij hx hy hc => by
  have h1 := List.pairwise_iff_getElem.1 h i j (lt_of_get hx) (lt_of_get hy) hij
  have e1 : l[i]'(lt_of_get hx) = x := Option.some.inj (by rw [← List.getElem?_eq_getElem]; exact hx)
  have e2 : l[j]'(lt_of_get hy) = y := Option.some.inj (by rw [← List.getElem?_eq_getElem]; exact hy)
  rw [e1, e2] at h1
  have hc : y - n < 0 := hc
  show x - n < 0
  omega

end Go.Proofs.Ytagphggcdmjlpaa.P

/- Set and Check as a whole; R.Begins; the walk of YoungSets. -/
namespace Go.Proofs.Ytagphggcdmjlpaa.P
open Go.Ab Go.Proofs.Ytagphggcdmjlpaa.T

theorem checkC (h : List Int) (old : Int) (late : List Int) (hlen : h.length ≤ maxLen) (hok : ∀ w, w ∈ h → WordOk w) (hlate : late.length ≤ maxLen) : ACallP Try.prog 35 [agesD h old late] (iD (checkY h old late)) := by
  have hob := objects h hlen hok
  unfold checkY
  by_cases he : (objsS h).2 = 0
  · obtain ⟨h4, hf, hp⟩ := heap_flat hlen hok he
    rw [if_neg (by simp [he])]
    rw [he] at hob
    have h1 := count_len (L := (objsS h).1)
    refine checkGood h old late _ hob h4 (by rw [← hf] at h1; omega) hlate fun o ho => ?_
    have := parts_len ho
    rw [← hf] at this
    omega
  · rw [if_pos (by simpa using he)]
    exact checkBad h old _ late _ (by simpa using he) hob

def namedY (h : List Int) (old : Int) (late ws : List Int) : Int := if checkY h old late != 0 then checkY h old late else firstE (nameE h (objsS h).1) ws

theorem namedC (h : List Int) (old : Int) (late ws : List Int) (hlen : h.length ≤ maxLen) (hok : ∀ w, w ∈ h → WordOk w) (hlate : late.length ≤ maxLen) (hws : ws.length ≤ maxLen) : ACallP Try.prog 66 [agesD h old late, words ws] (iD (namedY h old late ws)) := by
  have hck := checkC h old late hlen hok hlate
  unfold namedY
  by_cases he : checkY h old late = 0
  · rw [if_neg (by simp [he])]
    rw [he] at hck
    have h0 : (objsS h).2 = 0 := by
      unfold checkY at he
      by_cases h0 : (objsS h).2 = 0
      · exact h0
      · rw [if_pos (by simpa using h0)] at he; exact he
    obtain ⟨h4, hf, hp⟩ := heap_flat hlen hok h0
    have h1 := count_len (L := (objsS h).1)
    exact namedGood h old _ late ws _ hck (objects h hlen hok) (by rw [← hf] at h1; simp [maxLen]; omega) hlen hok hws
  · rw [if_pos (by simpa using he)]
    exact namedBad h old _ late ws (by simpa using he) hck

/-- Ages that Check finds right. -/
theorem checkY_zero {h : List Int} {old : Int} {late : List Int} (hlen : h.length ≤ maxLen) (hok : ∀ w, w ∈ h → WordOk w) (he : checkY h old late = 0) :
    ∃ L, objsS h = (L, 0) ∧ h = flat L ∧ h.length ≤ 4000 ∧ Placed L ∧ GoodA h.length old late L := by
  unfold checkY at he
  by_cases h0 : (objsS h).2 = 0
  · rw [if_neg (by simp [h0])] at he
    obtain ⟨h4, hf, hp⟩ := heap_flat hlen hok h0
    exact ⟨_, by rw [← h0], hf, h4, hp, checkO_iff.1 he⟩
  · rw [if_pos (by simpa using h0)] at he; exact absurd he h0

theorem checkY_flat {L : List Obj} {old : Int} {late : List Int} (hp : Placed L) (h4 : (flat L).length ≤ 4000) (hg : GoodA (flat L).length old late L) : checkY (flat L) old late = 0 := by
  unfold checkY
  rw [placed_objs hp h4]
  exact checkO_iff.2 hg

/-- A word that names an object, or none. -/
def NameOk (L : List Obj) (w : Int) : Prop := (placeS w).2.2 = 0 ∧ ((placeS w).2.1 = true → ∃ o, o ∈ L ∧ o.at_ = (placeS w).1)

theorem nameE_zero {L : List Obj} {w : Int} (hp : Placed L) : nameE (flat L) L w = 0 ↔ NameOk L w := by
  unfold nameE NameOk
  by_cases h1 : (placeS w).2.2 = 0
  · rw [if_neg (by simp [h1])]
    cases hi : (placeS w).2.1 with
    | false => simp [h1]
    | true =>
      by_cases h2 : ∃ o, o ∈ L ∧ o.at_ = (placeS w).1
      · obtain ⟨o, ho, ha⟩ := h2
        have h3 := at_placed hp ho
        rw [ha] at h3
        have h4 : (L.any fun o => o.at_ == (placeS w).1) = true := List.any_eq_true.2 ⟨o, ho, by simp [ha]⟩
        rw [h3, h4]
        simp only [bne_self_eq_false, Bool.and_false, Bool.not_true, Bool.or_false, Bool.false_eq_true, if_false, true_iff]
        exact ⟨h1, fun _ => ⟨o, ho, ha⟩⟩
      · have h4 : (L.any fun o => o.at_ == (placeS w).1) = false := by
          rw [Bool.eq_false_iff]
          intro h
          obtain ⟨o, ho, ha⟩ := List.any_eq_true.1 h
          exact h2 ⟨o, ho, by simpa using ha⟩
        rw [h4, if_pos (by simp)]
        exact ⟨fun h => (by cases h), fun h => absurd (h.2 rfl) h2⟩
  · rw [if_pos (by simpa using h1)]
    exact ⟨fun h => absurd h h1, fun h => absurd h.1 h1⟩

theorem namedY_zero {h : List Int} {old : Int} {late ws : List Int} (hlen : h.length ≤ maxLen) (hok : ∀ w, w ∈ h → WordOk w) (he : namedY h old late ws = 0) :
    ∃ L, objsS h = (L, 0) ∧ h = flat L ∧ h.length ≤ 4000 ∧ Placed L ∧ GoodA h.length old late L ∧ checkY h old late = 0 ∧ ∀ w, w ∈ ws → NameOk L w := by
  unfold namedY at he
  by_cases hc : checkY h old late = 0
  · rw [if_neg (by simp [hc])] at he
    obtain ⟨L, h1, h2, h3, h4, h5⟩ := checkY_zero hlen hok hc
    refine ⟨L, h1, h2, h3, h4, h5, hc, fun w hw => ?_⟩
    have := firstE_zero.1 he w hw
    rw [h1] at this
    rw [h2] at this
    exact (nameE_zero h4).1 this
  · rw [if_pos (by simpa using hc)] at he; exact absurd he hc

theorem namedY_flat {L : List Obj} {old : Int} {late ws : List Int} (hp : Placed L) (h4 : (flat L).length ≤ 4000) (hg : GoodA (flat L).length old late L) (hw : ∀ w, w ∈ ws → NameOk L w) : namedY (flat L) old late ws = 0 := by
  unfold namedY
  rw [if_neg (by rw [checkY_flat hp h4 hg]; simp), placed_objs hp h4]
  exact firstE_zero.2 fun w hwm => (nameE_zero hp).2 (hw w hwm)

theorem late_small {L : List Obj} {n old : Int} {late : List Int} (hg : GoodA n old late L) (hn : ∀ o, o ∈ L → 0 ≤ o.at_ ∧ o.at_ ≤ n) (hn0 : 0 ≤ n) (h4 : n ≤ 4000) : late.length ≤ 4001 := by
  obtain ⟨_, _, h3, h5, _⟩ := hg
  have hr : ∀ t, t ∈ late → 0 ≤ t ∧ t ≤ 4000 := fun t ht => by
    obtain ⟨_, hb⟩ := h3 t ht
    rcases begS_iff.1 hb with rfl | ⟨o, ho, rfl⟩
    · exact ⟨hn0, h4⟩
    · have := hn o ho; omega
  have key : ∀ (l : List Int) (a : Int), (∀ t, t ∈ l → a ≤ t ∧ t ≤ 4000) → l.Pairwise (· < ·) → a ≤ 4001 → (l.length : Int) ≤ 4001 - a := by
    intro l
    induction l with
    | nil => intro a _ _ h; simp; omega
    | cons x l ih =>
      intro a h1 h2 h3
      obtain ⟨h4, h5⟩ := List.pairwise_cons.1 h2
      have hx := h1 x List.mem_cons_self
      have := ih (x + 1) (fun t ht => ⟨by have := h4 t ht; omega, (h1 t (List.mem_cons_of_mem _ ht)).2⟩) h5 (by omega)
      simp only [List.length_cons]
      omega
  have := key late 0 hr h5 (by omega)
  omega

end Go.Proofs.Ytagphggcdmjlpaa.P

/- The copier, in plain words: one word, one part. -/
namespace Go.Proofs.Ytagphggcdmjlpaa.P
open Go.Ab Go.Proofs.Ytagphggcdmjlpaa.T

/-- Does a word name a place that goes over? -/
def toY (low w : Int) : Bool := (placeS w).2.1 && decide (low ≤ (placeS w).1)

theorem toY_cond (low w : Int) : (!(placeS w).2.1 || decide ((placeS w).1 < low)) = !toY low w := by
  unfold toY
  cases (placeS w).2.1
  · rfl
  · simp only [Bool.not_true, Bool.false_or, Bool.true_and]
    by_cases h : (placeS w).1 < low
    · rw [decide_eq_true h, decide_eq_false (by omega)]; rfl
    · rw [decide_eq_false h, decide_eq_true (by omega)]; rfl

def Known (low : Int) (mv : List (Int × Int)) (w : Int) : Prop := toY low w = true → ∃ t, lk mv (placeS w).1 = some t

/-- What a word is turned to. -/
def phi (low : Int) (mv : List (Int × Int)) (w : Int) : Int := if toY low w then (match lk mv (placeS w).1 with | some t => (wordS 4 t).1 | none => w) else w

def Sub (mv mv' : List (Int × Int)) : Prop := ∀ a t, lk mv a = some t → lk mv' a = some t

theorem known_sub {low w : Int} {mv mv' : List (Int × Int)} (h : Sub mv mv') (hk : Known low mv w) : Known low mv' w := fun ht => by
  obtain ⟨t, e⟩ := hk ht
  exact ⟨t, h _ _ e⟩

theorem phi_some {low w t : Int} {mv : List (Int × Int)} (h1 : toY low w = true) (h2 : lk mv (placeS w).1 = some t) : phi low mv w = (wordS 4 t).1 := by
  unfold phi; rw [if_pos h1, h2]

theorem phi_not {low w : Int} {mv : List (Int × Int)} (h1 : toY low w = false) : phi low mv w = w := by
  unfold phi; rw [if_neg (by rw [h1]; exact Bool.false_ne_true)]

theorem phi_sub {low w : Int} {mv mv' : List (Int × Int)} (h : Sub mv mv') (hk : Known low mv w) : phi low mv' w = phi low mv w := by
  cases ht : toY low w with
  | false => rw [phi_not ht, phi_not ht]
  | true =>
    obtain ⟨t, e⟩ := hk ht
    rw [phi_some ht e, phi_some ht (h _ _ e)]

theorem lk_snoc : ∀ (mv : List (Int × Int)) (a t b : Int), lk (mv ++ [(a, t)]) b = match lk mv b with | some x => some x | none => if a = b then some t else none
  | [], a, t, b => rfl
  | (c, d) :: l, a, t, b => by
    have e1 : lk ((c, d) :: l ++ [(a, t)]) b = if c = b then some d else lk (l ++ [(a, t)]) b := rfl
    have e2 : lk ((c, d) :: l) b = if c = b then some d else lk l b := rfl
    rw [e1, e2]
    by_cases h : c = b
    · rw [if_pos h, if_pos h]
    · rw [if_neg h, if_neg h, lk_snoc l]

/-- An object of the new heap, and the one that it stands for; so many of its parts are turned. -/
structure Src (L : List Obj) (low : Int) (st : Int → Nat) (mv : List (Int × Int)) (x o : Obj) : Prop where
  mem : o ∈ L
  lo : x.at_ < low → o.at_ = x.at_
  hi : low ≤ x.at_ → low ≤ o.at_ ∧ lk mv o.at_ = some x.at_
  kind : x.kind = o.kind
  num : x.num = o.num
  text : x.text = o.text
  parts : x.parts = (o.parts.take (st x.at_)).map (phi low mv) ++ o.parts.drop (st x.at_)
  known : ∀ p, p ∈ o.parts.take (st x.at_) → Known low mv p

theorem Src.len {L : List Obj} {low : Int} {st : Int → Nat} {mv : List (Int × Int)} {x o : Obj} (h : Src L low st mv x o) : x.parts.length = o.parts.length := by
  rw [h.parts, List.length_append, List.length_map, List.length_take, List.length_drop]; omega

theorem Src.encl {L : List Obj} {low : Int} {st : Int → Nat} {mv : List (Int × Int)} {x o : Obj} (h : Src L low st mv x o) : (encW x).length = (encW o).length := by
  rw [enc_len, enc_len, h.kind, h.text, h.len]

theorem Src.sub {L : List Obj} {low : Int} {st : Int → Nat} {mv mv' : List (Int × Int)} {x o : Obj} (hs : Sub mv mv') (h : Src L low st mv x o) : Src L low st mv' x o where
  mem := h.mem
  lo := h.lo
  hi := fun hx => ⟨(h.hi hx).1, hs _ _ (h.hi hx).2⟩
  kind := h.kind
  num := h.num
  text := h.text
  parts := by
    rw [h.parts]
    congr 1
    exact List.map_congr_left fun p hp => (phi_sub hs (h.known p hp)).symm
  known := fun p hp => known_sub hs (h.known p hp)

/-- Is it to be copied yet? -/
def leftB (low : Int) (mv : List (Int × Int)) (o : Obj) : Bool := decide (low ≤ o.at_) && (lk mv o.at_).isNone

/-- What is so all the time while the copier runs. -/
structure Inv (L : List Obj) (low : Int) (Rch : Int → Prop) (st : Int → Nat) (T : List Obj) (mv : List (Int × Int)) : Prop where
  placed : Placed T
  src : ∀ x, x ∈ T → ∃ o, Src L low st mv x o
  dst : ∀ a t, lk mv a = some t → Rch a ∧ low ≤ t ∧ ∃ x, x ∈ T ∧ x.at_ = t
  kept : ∀ o, o ∈ L → o.at_ < low → ∃ x, x ∈ T ∧ x.at_ = o.at_
  lowT : low ≤ (flat T).length
  fresh : ∀ a : Int, ((flat T).length : Int) ≤ a → st a = 0
  size : (flat T).length + restN (leftB low mv) L = (flat L).length
  inj : ∀ a b t, lk mv a = some t → lk mv b = some t → a = b

def HasSrc (L : List Obj) (low : Int) (st : Int → Nat) (T : List Obj) (mv : List (Int × Int)) (a : Int) (o : Obj) : Prop := ∃ x, x ∈ T ∧ x.at_ = a ∧ Src L low st mv x o

theorem wordC_eq (g : List Int) (low w : Int) (S : CS) : wordC g low S w = if toY low w then (match lk S.2 (placeS w).1 with | some t => ((wordS 4 t).1, S) | none => ((wordS 4 S.1.length).1, (putS S.1 (atS g (placeS w).1).1).1, S.2 ++ [((placeS w).1, (S.1.length : Int))])) else (w, S) := by
  unfold wordC
  rw [toY_cond]
  cases toY low w <;> rfl

/-- One word is turned. -/
theorem word_step {L : List Obj} {low : Int} {Rch : Int → Prop} {st : Int → Nat} {T : List Obj} {mv : List (Int × Int)} {w : Int} (hL : Placed L) (h4 : (flat L).length ≤ 4000) (hi : Inv L low Rch st T mv) (hn : NameOk L w) (hr : toY low w = true → Rch (placeS w).1) :
    ∃ T' mv', wordC (flat L) low (flat T, mv) w = (phi low mv' w, flat T', mv') ∧ wordOK (flat L) low (flat T, mv) w ∧ Inv L low Rch st T' mv' ∧ Known low mv' w ∧ Sub mv mv' ∧ (flat T).length ≤ (flat T').length ∧
      ∀ a o, HasSrc L low st T mv a o → HasSrc L low st T' mv' a o := by
  rw [wordC_eq]
  cases ht : toY low w with
  | false =>
    refine ⟨T, mv, by rw [if_neg Bool.false_ne_true, phi_not ht], fun hc => ?_, hi, fun h => ?_, fun _ _ h => h, Nat.le_refl _, fun _ _ h => h⟩
    · rw [toY_cond, ht] at hc; cases hc
    · rw [ht] at h; cases h
  | true =>
    rw [if_pos rfl]
    cases hl : lk mv (placeS w).1 with
    | some t =>
      refine ⟨T, mv, by rw [phi_some ht hl], fun _ h => ?_, hi, fun _ => ⟨t, hl⟩, fun _ _ h => h, Nat.le_refl _, fun _ _ h => h⟩
      rw [show lk (flat T, mv).2 (placeS w).1 = some t from hl] at h; cases h
    | none =>
      have ht2 := ht
      unfold toY at ht2
      rw [Bool.and_eq_true, decide_eq_true_eq] at ht2
      obtain ⟨hy, hlow⟩ := ht2
      obtain ⟨o, ho, hoa⟩ := hn.2 hy
      have hat := at_placed hL ho
      rw [hoa] at hat
      have hko := hL.2 o ho
      have hrest := rest_one (f := leftB low mv) (g := leftB low (mv ++ [((placeS w).1, ((flat T).length : Int))])) hL ho (by unfold leftB; rw [hoa, hl, decide_eq_true hlow]; rfl)
        (by unfold leftB; rw [hoa, lk_snoc, hl]; simp) (fun x hx hne => by
          unfold leftB
          rw [lk_snoc]
          cases lk mv x.at_ with
          | some _ => rfl
          | none => rw [if_neg (by rw [← hoa]; exact fun e => hne e.symm)])
      have hsz := hi.size
      have hput : putS (flat T) o = (flat T ++ encW o, ((flat T).length : Int), 0) := by
        have hel := enc_len o
        unfold putS
        rw [hko.1, if_neg (by simp), if_neg (by rw [decide_eq_true_eq]; omega)]
      obtain ⟨hp2, hf2⟩ := placed_snoc hi.placed hko
      have hsub : Sub mv (mv ++ [((placeS w).1, ((flat T).length : Int))]) := fun a t e => by rw [lk_snoc, e]
      have hlk : lk (mv ++ [((placeS w).1, ((flat T).length : Int))]) (placeS w).1 = some ((flat T).length : Int) := by rw [lk_snoc, hl]; simp
      refine ⟨T ++ [o.to (flat T).length], mv ++ [((placeS w).1, ((flat T).length : Int))], ?_, fun _ _ => ?_, ⟨hp2, fun x hx => ?_, fun a t e => ?_, fun x hx hxl => ?_, ?_, fun a ha => ?_, ?_, fun a b t ea eb => ?_⟩, fun _ => ⟨_, hlk⟩, hsub, ?_, fun a x h => ?_⟩
      · rw [phi_some ht hlk, hf2]
        show ((wordS 4 ((flat T).length : Int)).1, (putS (flat T) (atS (flat L) (placeS w).1).1).1, _) = _
        rw [hat, hput]
      · show (putS (flat T) (atS (flat L) (placeS w).1).1).2.2 = 0
        rw [hat, hput]
      · rcases List.mem_append.1 hx with hx | hx
        · obtain ⟨y, hy⟩ := hi.src x hx
          exact ⟨y, hy.sub hsub⟩
        · rcases List.mem_singleton.1 hx with rfl
          have h0 : st (o.to (flat T).length).at_ = 0 := hi.fresh _ (Int.le_refl _)
          refine ⟨o, ho, fun hlt => ?_, fun _ => ⟨by omega, by rw [hoa]; exact hlk⟩, rfl, rfl, rfl, ?_, fun p hp => ?_⟩
          · have : ((flat T).length : Int) < low := hlt
            have := hi.lowT; omega
          · rw [h0, List.take_zero, List.drop_zero]; rfl
          · rw [h0, List.take_zero] at hp; cases hp
      · rw [lk_snoc] at e
        cases hm : lk mv a with
        | some t2 =>
          rw [hm] at e
          cases e
          obtain ⟨d1, d2, x, hx, hxa⟩ := hi.dst a t hm
          exact ⟨d1, d2, x, List.mem_append_left _ hx, hxa⟩
        | none =>
          rw [hm] at e
          simp only at e
          split at e
          · rename_i hae
            cases e
            exact ⟨by rw [← hae]; exact hr ht, hi.lowT, _, List.mem_append_right _ (List.mem_singleton.2 rfl), rfl⟩
          · cases e
      · obtain ⟨y, hy, hya⟩ := hi.kept x hx hxl
        exact ⟨y, List.mem_append_left _ hy, hya⟩
      · rw [hf2, List.length_append]
        have := hi.lowT; omega
      · refine hi.fresh a ?_
        rw [hf2, List.length_append] at ha
        omega
      · rw [hf2, List.length_append]
        omega
      · have hlt : ∀ c u, lk mv c = some u → u < ((flat T).length : Int) := fun c u e => by
          obtain ⟨_, _, y, hy, hya⟩ := hi.dst c u e
          obtain ⟨m, e1, e2⟩ := placed_len hi.placed hy
          have hpos : 1 ≤ (encW y).length := by simp [encW]
          omega
        rw [lk_snoc] at ea eb
        cases ha : lk mv a with
        | some u =>
          rw [ha] at ea
          cases ea
          cases hb : lk mv b with
          | some v =>
            rw [hb] at eb
            cases eb
            exact hi.inj a b _ ha hb
          | none =>
            rw [hb] at eb
            simp only at eb
            split at eb
            · cases eb
              have := hlt a _ ha
              omega
            · cases eb
        | none =>
          rw [ha] at ea
          simp only at ea
          split at ea
          · rename_i hae
            cases ea
            cases hb : lk mv b with
            | some v =>
              rw [hb] at eb
              cases eb
              have := hlt b _ hb
              omega
            | none =>
              rw [hb] at eb
              simp only at eb
              split at eb
              · rename_i hbe
                rw [← hae, ← hbe]
              · cases eb
          · cases ea
      · rw [hf2, List.length_append]; omega
      · obtain ⟨y, hy, hya, hs⟩ := h
        exact ⟨y, List.mem_append_left _ hy, hya, hs.sub hsub⟩

def upd (st : Int → Nat) (a : Int) (v : Nat) : Int → Nat := fun b => if b = a then v else st b
theorem upd_same (st : Int → Nat) (a : Int) (v : Nat) : upd st a v a = v := if_pos rfl
theorem upd_ne {st : Int → Nat} {a b : Int} {v : Nat} (h : b ≠ a) : upd st a v b = st b := if_neg h
theorem upd_upd (st : Int → Nat) (a : Int) (v v' : Nat) : upd (upd st a v) a v' = upd st a v' := by
  funext b; unfold upd; split <;> rfl

theorem set_turn {f : Int → Int} {l : List Int} {i : Nat} {w : Int} (h : l[i]? = some w) : ((l.take i).map f ++ l.drop i).set i (f w) = (l.take (i + 1)).map f ++ l.drop (i + 1) := by
  have hi := lt_of_get h
  have hl : ((l.take i).map f).length = i := by rw [List.length_map, List.length_take]; omega
  rw [List.set_append_right _ _ (by omega), hl, Nat.sub_self, drop_of h, List.set_cons_zero, take_succ_of h, List.map_append, List.append_assoc]
  rfl

theorem Src.set {L : List Obj} {low : Int} {st : Int → Nat} {mv : List (Int × Int)} {x o : Obj} {i : Nat} {w : Int} (h : Src L low st mv x o) (hst : st x.at_ = i) (hw : x.parts[i]? = some w) (hk : Known low mv w) :
    Src L low (upd st x.at_ (i + 1)) mv (setPart x i (phi low mv w)) o := by
  have hp := h.parts
  rw [hst] at hp
  have hil := lt_of_get hw
  have hlen := h.len
  have ho : o.parts[i]? = some w := by
    rw [hp, List.getElem?_append_right (by rw [List.length_map, List.length_take]; omega), List.length_map, List.length_take, List.getElem?_drop] at hw
    rw [← hw]; congr 1; omega
  have e : (upd st x.at_ (i + 1)) (setPart x i (phi low mv w)).at_ = i + 1 := upd_same _ _ _
  refine ⟨h.mem, h.lo, h.hi, h.kind, h.num, h.text, ?_, fun p hpm => ?_⟩
  · rw [e]
    show x.parts.set i _ = _
    rw [hp, set_turn ho]
  · rw [e, take_succ_of ho] at hpm
    rcases List.mem_append.1 hpm with hpm | hpm
    · exact h.known p (by rw [hst]; exact hpm)
    · rcases List.mem_singleton.1 hpm with rfl; exact hk

theorem Src.upd_ne {L : List Obj} {low : Int} {st : Int → Nat} {mv : List (Int × Int)} {x o : Obj} {a : Int} {v : Nat} (h : Src L low st mv x o) (hne : x.at_ ≠ a) : Src L low (upd st a v) mv x o := by
  have e : upd st a v x.at_ = st x.at_ := P.upd_ne hne
  exact ⟨h.mem, h.lo, h.hi, h.kind, h.num, h.text, by rw [e]; exact h.parts, fun p hp => h.known p (by rw [e] at hp; exact hp)⟩

theorem Src.upd_all {L : List Obj} {low : Int} {st : Int → Nat} {mv : List (Int × Int)} {x o : Obj} {v : Nat} (h : Src L low st mv x o) (h1 : x.parts.length ≤ st x.at_) (h2 : x.parts.length ≤ v) : Src L low (upd st x.at_ v) mv x o := by
  have hlen := h.len
  have e1 : o.parts.take (upd st x.at_ v x.at_) = o.parts.take (st x.at_) := by
    rw [upd_same, List.take_of_length_le (by omega), List.take_of_length_le (by omega)]
  have e2 : o.parts.drop (upd st x.at_ v x.at_) = o.parts.drop (st x.at_) := by
    rw [upd_same, List.drop_eq_nil_of_le (by omega), List.drop_eq_nil_of_le (by omega)]
  exact ⟨h.mem, h.lo, h.hi, h.kind, h.num, h.text, by rw [e1, e2]; exact h.parts, fun p hp => h.known p (by rw [e1] at hp; exact hp)⟩

theorem phi_wordok {low w : Int} {mv : List (Int × Int)} (hw : WordOk w) : WordOk (phi low mv w) := by
  unfold phi
  split
  · split
    · exact wordS_ok _ _
    · exact hw
  · exact hw

/-- One part is set. -/
theorem set_step {L : List Obj} {low : Int} {Rch : Int → Prop} {st : Int → Nat} {T : List Obj} {mv : List (Int × Int)} {x : Obj} {i : Nat} {w : Int} (hi : Inv L low Rch st T mv) (hx : x ∈ T) (hst : st x.at_ = i) (hw : x.parts[i]? = some w) (hk : Known low mv w) :
    ∃ T', (flat T).set (x.at_.toNat + (encW x).length - x.parts.length + i) (phi low mv w) = flat T' ∧ Inv L low Rch (upd st x.at_ (i + 1)) T' mv ∧ (flat T').length = (flat T).length ∧
      ∀ a o, HasSrc L low st T mv a o → HasSrc L low (upd st x.at_ (i + 1)) T' mv a o := by
  obtain ⟨P, Q, hT, ha⟩ := placed_split hi.placed hx
  have hp := hi.placed
  rw [hT] at hp
  obtain ⟨hp2, hf2⟩ := placed_setPart (i := i) (w := phi low mv w) hp (phi_wordok ((hi.placed.2 x hx).2.2 w (List.mem_of_getElem? hw))) (lt_of_get hw)
  have hat : x.at_.toNat = (flat P).length := by omega
  have hlen : (flat (P ++ setPart x i (phi low mv w) :: Q)).length = (flat T).length := by rw [hf2, List.length_set, ← hT]
  have old : ∀ y, y ∈ P ++ x :: Q → y ≠ x → y ∈ P ++ setPart x i (phi low mv w) :: Q := fun y hy hne => by
    rcases List.mem_append.1 hy with hy | hy
    · exact List.mem_append_left _ hy
    · rcases List.mem_cons.1 hy with rfl | hy
      · exact absurd rfl hne
      · exact List.mem_append_right _ (List.mem_cons_of_mem _ hy)
  have hnew : setPart x i (phi low mv w) ∈ P ++ setPart x i (phi low mv w) :: Q := by simp
  have has : ∀ a, (∃ y, y ∈ T ∧ y.at_ = a) → ∃ y, y ∈ P ++ setPart x i (phi low mv w) :: Q ∧ y.at_ = a := fun a ⟨y, hy, hya⟩ => by
    by_cases hyx : y = x
    · subst hyx; exact ⟨_, hnew, hya⟩
    · exact ⟨y, old y (by rw [← hT]; exact hy) hyx, hya⟩
  have back : ∀ y, y ∈ P ++ setPart x i (phi low mv w) :: Q → y = setPart x i (phi low mv w) ∨ (y ∈ T ∧ y.at_ ≠ x.at_) := fun y hy => by
    by_cases hya : y.at_ = x.at_
    · exact .inl (placed_inj hp2 hy hnew hya)
    · refine .inr ⟨?_, hya⟩
      rw [hT]
      rcases List.mem_append.1 hy with hy | hy
      · exact List.mem_append_left _ hy
      · rcases List.mem_cons.1 hy with rfl | hy
        · exact absurd rfl hya
        · exact List.mem_append_right _ (List.mem_cons_of_mem _ hy)
  refine ⟨_, by rw [hat, hf2, ← hT], ⟨hp2, fun y hy => ?_, fun a t e => ?_, fun o ho hol => has _ (hi.kept o ho hol), by rw [hlen]; exact hi.lowT, fun a hal => ?_, by rw [hlen]; exact hi.size, hi.inj⟩, hlen, fun a o ⟨y, hy, hya, hs⟩ => ?_⟩
  · rcases back y hy with rfl | ⟨hy, hne⟩
    · obtain ⟨o, ho⟩ := hi.src x hx
      exact ⟨o, ho.set hst hw hk⟩
    · obtain ⟨o, ho⟩ := hi.src y hy
      exact ⟨o, ho.upd_ne hne⟩
  · obtain ⟨d1, d2, d3⟩ := hi.dst a t e
    exact ⟨d1, d2, has _ d3⟩
  · rw [hlen] at hal
    have := placed_len hi.placed hx
    obtain ⟨n, e1, e2⟩ := this
    have hpos : 1 ≤ (encW x).length := by simp [encW]
    rw [Go.Proofs.Ytagphggcdmjlpaa.P.upd_ne (show a ≠ x.at_ by omega)]
    exact hi.fresh a hal
  · by_cases hyx : y = x
    · subst hyx
      exact ⟨_, hnew, hya, hs.set hst hw hk⟩
    · exact ⟨y, old y (by rw [← hT]; exact hy) hyx, hya, hs.upd_ne fun e => hyx (placed_inj hi.placed hy hx e)⟩
end Go.Proofs.Ytagphggcdmjlpaa.P

/- The copier, in plain words: parts, late ones, roots, and the scan. -/
namespace Go.Proofs.Ytagphggcdmjlpaa.P
open Go.Ab Go.Proofs.Ytagphggcdmjlpaa.T

theorem Inv.upd_all {L : List Obj} {low : Int} {Rch : Int → Prop} {st : Int → Nat} {T : List Obj} {mv : List (Int × Int)} {x : Obj} (hi : Inv L low Rch st T mv) (hx : x ∈ T) (h1 : x.parts.length ≤ st x.at_) :
    Inv L low Rch (upd st x.at_ 1000) T mv ∧ ∀ a o, HasSrc L low st T mv a o → HasSrc L low (upd st x.at_ 1000) T mv a o := by
  have h2 : x.parts.length ≤ 1000 := by have := (right_small (hi.placed.2 x hx).1).2; omega
  have key : ∀ y o, y ∈ T → Src L low st mv y o → Src L low (upd st x.at_ 1000) mv y o := fun y o hy h => by
    by_cases e : y = x
    · subst e; exact h.upd_all h1 h2
    · exact h.upd_ne fun e2 => e (placed_inj hi.placed hy hx e2)
  refine ⟨⟨hi.placed, fun y hy => ?_, hi.dst, hi.kept, hi.lowT, fun a ha => ?_, hi.size, hi.inj⟩, fun a o ⟨y, hy, hya, hs⟩ => ⟨y, hy, hya, key y o hy hs⟩⟩
  · obtain ⟨o, ho⟩ := hi.src y hy
    exact ⟨o, key y o hy ho⟩
  · obtain ⟨n, e1, e2⟩ := placed_len hi.placed hx
    have hpos : 1 ≤ (encW x).length := by simp [encW]
    rw [upd_ne (show a ≠ x.at_ by omega)]
    exact hi.fresh a ha

theorem Inv.small {L : List Obj} {low : Int} {Rch : Int → Prop} {st : Int → Nat} {T : List Obj} {mv : List (Int × Int)} (hi : Inv L low Rch st T mv) : (flat T).length ≤ (flat L).length := by
  have := hi.size; omega

/-- The words of an object's parts may be turned. -/
def PartsOk (L : List Obj) (low : Int) (Rch : Int → Prop) (ws : List Int) : Prop := ∀ w, w ∈ ws → NameOk L w ∧ (toY low w = true → Rch (placeS w).1)

theorem partF_step {L : List Obj} {low : Int} {Rch : Int → Prop} (hL : Placed L) (h4 : (flat L).length ≤ 4000) {a : Int} {o : Obj} (hno : PartsOk L low Rch o.parts) :
    ∀ (ps : List Int) (i : Nat) (st : Int → Nat) (T : List Obj) (mv : List (Int × Int)), Inv L low Rch st T mv → HasSrc L low st T mv a o → st a = i → o.parts.drop i = ps →
      ∃ T' mv', partF (flat L) low (flat T, mv) (a.toNat + (encW o).length - o.parts.length + i) ps = (flat T', mv') ∧ partOK (flat L) low (flat T, mv) (a.toNat + (encW o).length - o.parts.length + i) ps ∧
        Inv L low Rch (upd st a 1000) T' mv' ∧ Sub mv mv' ∧ (flat T).length ≤ (flat T').length ∧ ∀ b q, HasSrc L low st T mv b q → HasSrc L low (upd st a 1000) T' mv' b q
  | [], i, st, T, mv, hi, ⟨x, hx, hxa, hs⟩, hst, hd => by
    have hl : o.parts.length ≤ i := by
      have := congrArg List.length hd
      rw [List.length_drop] at this
      simp at this; omega
    have h1 : x.parts.length ≤ st x.at_ := by rw [hs.len, hxa, hst]; exact hl
    obtain ⟨i1, i2⟩ := hi.upd_all hx h1
    rw [hxa] at i1 i2
    have hsm := hi.small
    exact ⟨T, mv, rfl, show (flat T).length ≤ 4000 by omega, i1, fun _ _ h => h, Nat.le_refl _, i2⟩
  | w :: l, i, st, T, mv, hi, hsrc, hst, hd => by
    have hget : o.parts[i]? = some w := by
      have := congrArg (fun l => l[0]?) hd
      simpa [List.getElem?_drop] using this
    have hwm := List.mem_of_getElem? hget
    obtain ⟨hn, hr⟩ := hno w hwm
    obtain ⟨T1, mv1, e1, ok1, inv1, kn1, sub1, len1, has1⟩ := word_step hL h4 hi hn hr
    obtain ⟨x, hx, hxa, hs⟩ := has1 a o hsrc
    have hil := lt_of_get hget
    have hxw : x.parts[i]? = some w := by
      have hp := hs.parts
      rw [hxa, hst] at hp
      rw [hp, List.getElem?_append_right (by rw [List.length_map, List.length_take]; omega), List.length_map, List.length_take, List.getElem?_drop, ← hget]
      congr 1; omega
    have hst1 : st x.at_ = i := by rw [hxa]; exact hst
    obtain ⟨T2, e2, inv2, len2, has2⟩ := set_step inv1 hx hst1 hxw kn1
    rw [hxa, hs.encl, hs.len] at e2
    rw [hxa] at inv2 has2
    have hd2 : o.parts.drop (i + 1) = l := by
      have := drop_of hget
      rw [hd] at this
      exact (List.cons.inj this).2.symm
    obtain ⟨T3, mv3, e3, ok3, inv3, sub3, len3, has3⟩ := partF_step hL h4 hno l (i + 1) (upd st a (i + 1)) T2 mv1 inv2 (has2 a o ⟨x, hx, hxa, hs⟩) (upd_same _ _ _) hd2
    have hsm := hi.small
    have hsm1 := inv1.small
    obtain ⟨n, en, hnl⟩ := placed_len inv1.placed hx
    have hpl : x.parts.length ≤ (encW x).length := by unfold encW; simp; omega
    rw [hs.encl] at hnl hpl
    rw [hs.len] at hpl
    have hk : a.toNat + (encW o).length - o.parts.length + i < (flat T1).length := by omega
    refine ⟨T3, mv3, ?_, ?_, by rw [upd_upd] at inv3; exact inv3, fun b t h => sub3 b t (sub1 b t h), by omega, fun b q h => by
      have := has3 b q (has2 b q (has1 b q h))
      rw [upd_upd] at this
      exact this⟩
    · show partF (flat L) low ((wordC (flat L) low (flat T, mv) w).2.1.set _ (wordC (flat L) low (flat T, mv) w).1, (wordC (flat L) low (flat T, mv) w).2.2) _ l = _
      rw [e1]
      simp only
      rw [e2]
      exact e3
    · refine ⟨ok1, show (flat T).length ≤ 4000 by omega, ?_, ?_, ?_⟩
      · rw [e1]; exact hk
      · rw [e1]; show (flat T1).length ≤ 4000; omega
      · rw [e1]
        simp only
        rw [e2]
        exact ok3

/-- An object of the new heap is turned. -/
theorem parts_step {L : List Obj} {low : Int} {Rch : Int → Prop} (hL : Placed L) (h4 : (flat L).length ≤ 4000) {n : Nat} {o : Obj} (hno : PartsOk L low Rch o.parts) {st : Int → Nat} {T : List Obj} {mv : List (Int × Int)} (hi : Inv L low Rch st T mv) (hsrc : HasSrc L low st T mv n o) (hst : st n = 0) :
    ∃ T' mv', partsC (flat L) low (flat T, mv) n = (n + (encW o).length, flat T', mv') ∧ partsOK (flat L) low (flat T, mv) n ∧ Inv L low Rch (upd st n 1000) T' mv' ∧ Sub mv mv' ∧ (flat T).length ≤ (flat T').length ∧ n + (encW o).length ≤ (flat T).length ∧
      ∀ b q, HasSrc L low st T mv b q → HasSrc L low (upd st n 1000) T' mv' b q := by
  obtain ⟨T', mv', e, ok, inv, sub, len, has⟩ := partF_step hL h4 hno o.parts 0 st T mv hi hsrc hst (List.drop_zero)
  obtain ⟨x, hx, hxa, hs⟩ := hsrc
  have hat := at_placed hi.placed hx
  rw [hxa] at hat
  have hput := put_nil (hi.placed.2 x hx).1
  have hxp : x.parts = o.parts := by
    have := hs.parts
    rw [hxa, hst, List.take_zero, List.drop_zero] at this
    exact this
  obtain ⟨m, em, hml⟩ := placed_len hi.placed hx
  have hmn : m = n := by omega
  subst hmn
  rw [hs.encl] at hml
  have hpl : o.parts.length ≤ (encW o).length := by unfold encW; simp; omega
  have hsm := hi.small
  rw [Int.toNat_natCast, Nat.add_zero] at e ok
  refine ⟨T', mv', ?_, ⟨placed_ok hi.placed, show (flat T).length ≤ 4000 by omega, ?_, ?_, ?_⟩, inv, sub, len, hml, has⟩
  · unfold partsC
    show (m + (putS [] (atS (flat T) m).1).1.length, partF _ _ _ (m + (putS [] (atS (flat T) m).1).1.length - (atS (flat T) m).1.parts.length) (atS (flat T) m).1.parts) = _
    rw [hat, hput]
    simp only
    rw [hs.encl, hxp, e]
  · show (atS (flat T) m).1.parts.length ≤ m + (putS [] (atS (flat T) m).1).1.length
    rw [hat, hput]
    simp only
    rw [hs.encl, hxp]; omega
  · show m + (putS [] (atS (flat T) m).1).1.length ≤ 4000
    rw [hat, hput]
    simp only
    rw [hs.encl]; omega
  · show partOK _ _ _ (m + (putS [] (atS (flat T) m).1).1.length - (atS (flat T) m).1.parts.length) (atS (flat T) m).1.parts
    rw [hat, hput]
    simp only
    rw [hs.encl, hxp]; exact ok

/-- The late ones are turned. -/
theorem late_step {L : List Obj} {low : Int} {Rch : Int → Prop} (hL : Placed L) (h4 : (flat L).length ≤ 4000) : ∀ (late : List Int) (st : Int → Nat) (T : List Obj) (mv : List (Int × Int)), Inv L low Rch st T mv → late.Pairwise (· < ·) →
    (∀ t, t ∈ late → 0 ≤ t ∧ st t = 0 ∧ ∃ o, HasSrc L low st T mv t o ∧ PartsOk L low Rch o.parts) →
      ∃ T' mv' st', lateC (flat L) low (flat T, mv) late = (flat T', mv') ∧ lateOK (flat L) low (flat T, mv) late ∧ Inv L low Rch st' T' mv' ∧ (∀ t, t ∈ late → st' t = 1000) ∧ (∀ b, b ∉ late → st' b = st b) ∧ Sub mv mv' ∧ (flat T).length ≤ (flat T').length
  | [], st, T, mv, hi, _, _ => ⟨T, mv, st, rfl, (by have := hi.small; show (flat T).length ≤ 4000; omega), hi, fun t ht => (by cases ht), fun _ _ => rfl, fun _ _ h => h, Nat.le_refl _⟩
  | t :: l, st, T, mv, hi, hp, hall => by
    obtain ⟨hp1, hp2⟩ := List.pairwise_cons.1 hp
    obtain ⟨h0, hst, o, hsrc, hno⟩ := hall t List.mem_cons_self
    obtain ⟨n, rfl⟩ := Int.eq_ofNat_of_zero_le h0
    obtain ⟨T1, mv1, e1, ok1, inv1, sub1, len1, _, has1⟩ := parts_step hL h4 hno hi hsrc hst
    obtain ⟨T2, mv2, st2, e2, ok2, inv2, d2, u2, sub2, len2⟩ := late_step hL h4 l (upd st n 1000) T1 mv1 inv1 hp2 fun t ht => by
      obtain ⟨a1, a2, o2, a3, a4⟩ := hall t (List.mem_cons_of_mem _ ht)
      have := hp1 t ht
      exact ⟨a1, by rw [upd_ne (by omega)]; exact a2, o2, has1 _ _ a3, a4⟩
    have hnl : (n : Int) ∉ l := fun h => by have := hp1 _ h; omega
    refine ⟨T2, mv2, st2, ?_, ⟨h0, ?_, ?_⟩, inv2, fun x hx => ?_, fun b hb => ?_, fun a b h => sub2 a b (sub1 a b h), by omega⟩
    · rw [late_cons, Int.toNat_natCast, e1]; exact e2
    · rw [Int.toNat_natCast]; exact ok1
    · rw [Int.toNat_natCast, e1]; exact ok2
    · rcases List.mem_cons.1 hx with rfl | hx
      · rw [u2 _ hnl, upd_same]
      · exact d2 x hx
    · rw [u2 b fun h => hb (List.mem_cons_of_mem _ h), upd_ne fun e => hb (by rw [e]; exact List.mem_cons_self)]

/-- The roots are turned. -/
theorem roots_step {L : List Obj} {low : Int} {Rch : Int → Prop} (hL : Placed L) (h4 : (flat L).length ≤ 4000) {st : Int → Nat} : ∀ (ws : List Int) (T : List Obj) (mv : List (Int × Int)), Inv L low Rch st T mv → PartsOk L low Rch ws →
      ∃ T' mv', rootsC (flat L) low (flat T, mv) ws = (ws.map (phi low mv'), flat T', mv') ∧ rootsOK (flat L) low (flat T, mv) ws ∧ Inv L low Rch st T' mv' ∧ (∀ w, w ∈ ws → Known low mv' w) ∧ Sub mv mv' ∧ (flat T).length ≤ (flat T').length
  | [], T, mv, hi, _ => ⟨T, mv, rfl, (by have := hi.small; show (flat T).length ≤ 4000; omega), hi, fun t ht => (by cases ht), fun _ _ h => h, Nat.le_refl _⟩
  | w :: l, T, mv, hi, hok => by
    obtain ⟨hn, hr⟩ := hok w List.mem_cons_self
    obtain ⟨T1, mv1, e1, ok1, inv1, kn1, sub1, len1, _⟩ := word_step hL h4 hi hn hr
    obtain ⟨T2, mv2, e2, ok2, inv2, kn2, sub2, len2⟩ := roots_step hL h4 l T1 mv1 inv1 fun w hw => hok w (List.mem_cons_of_mem _ hw)
    refine ⟨T2, mv2, ?_, ⟨show (flat T).length ≤ 4000 by have := hi.small; omega, ok1, by rw [e1]; exact ok2⟩, inv2, fun x hx => ?_, fun a b h => sub2 a b (sub1 a b h), by omega⟩
    · show ((wordC (flat L) low (flat T, mv) w).1 :: (rootsC (flat L) low (wordC (flat L) low (flat T, mv) w).2 l).1, (rootsC (flat L) low (wordC (flat L) low (flat T, mv) w).2 l).2) = _
      rw [e1]
      simp only
      rw [e2]
      simp only [List.map_cons]
      rw [phi_sub sub2 kn1]
    · rcases List.mem_cons.1 hx with rfl | hx
      · exact known_sub sub2 kn1
      · exact kn2 x hx

theorem no_start {T : List Obj} {x y : Obj} (hT : Placed T) (hx : x ∈ T) (hy : y ∈ T) (h : x.at_ < y.at_) : x.at_ + (encW x).length ≤ y.at_ := by
  obtain ⟨P, Q, rfl, ha⟩ := placed_split hT hx
  obtain ⟨_, hP, hQ, _⟩ := placed_parts hT
  rcases List.mem_append.1 hy with hy | hy
  · obtain ⟨n, e1, e2⟩ := placed_len hP hy
    omega
  · rcases List.mem_cons.1 hy with rfl | hy
    · omega
    · exact hQ y hy

theorem next_start {T : List Obj} {x : Obj} (hT : Placed T) (hx : x ∈ T) : x.at_ + (encW x).length = (flat T).length ∨ ∃ y, y ∈ T ∧ y.at_ = x.at_ + (encW x).length := by
  obtain ⟨P, Q, rfl, ha⟩ := placed_split hT hx
  obtain ⟨_, hP, hQ, hq⟩ := placed_parts hT
  cases Q with
  | nil =>
    left
    rw [flat_append, show flat [x] = encW x ++ [] from rfl, List.append_nil, List.length_append, ha]; omega
  | cons y Q =>
    right
    refine ⟨y, by simp, ?_⟩
    have := (List.cons.inj hq).1
    rw [← this, ha]
    show (((flat P).length + (encW x).length : Nat) : Int) = _
    omega

theorem Inv.congr {L : List Obj} {low : Int} {Rch : Int → Prop} {st st' : Int → Nat} {T : List Obj} {mv : List (Int × Int)} (hi : Inv L low Rch st T mv) (h1 : ∀ x, x ∈ T → st' x.at_ = st x.at_) (h2 : ∀ a : Int, ((flat T).length : Int) ≤ a → st' a = 0) : Inv L low Rch st' T mv := by
  refine ⟨hi.placed, fun x hx => ?_, hi.dst, hi.kept, hi.lowT, h2, hi.size, hi.inj⟩
  obtain ⟨o, h⟩ := hi.src x hx
  have e := h1 x hx
  exact ⟨o, h.mem, h.lo, h.hi, h.kind, h.num, h.text, by rw [e]; exact h.parts, by rw [e]; exact h.known⟩

/-- What is not yet turned is turned. -/
theorem scan_step {L : List Obj} {low : Int} {Rch : Int → Prop} (hL : Placed L) (h4 : (flat L).length ≤ 4000) (hcl : ∀ o, o ∈ L → Rch o.at_ → PartsOk L low Rch o.parts) :
    ∀ (f : Nat) (st : Int → Nat) (T : List Obj) (mv : List (Int × Int)) (n : Nat), Inv L low Rch st T mv → ((flat T).length = n ∨ ∃ x, x ∈ T ∧ x.at_ = n) → (flat L).length ≤ f + n → low ≤ n → (∀ b : Int, n ≤ b → st b = 0) → (∀ b : Int, low ≤ b → b < n → st b = 1000) →
      ∃ T' mv' st', scanC (flat L) low f (flat T, mv) n = (flat T', mv') ∧ scanOK (flat L) low f (flat T, mv) n ∧ Inv L low Rch st' T' mv' ∧ (∀ x, x ∈ T' → low ≤ x.at_ → st' x.at_ = 1000) ∧ (∀ b, b < low → st' b = st b) ∧ Sub mv mv'
  | 0, st, T, mv, n, hi, hb, hf, hln, hz, hd => by
    have hsm := hi.small
    have hle : (flat T).length ≤ n := by omega
    exact ⟨T, mv, st, rfl, hle, hi, fun x hx hl => hd _ hl (by
      obtain ⟨m, e1, e2⟩ := placed_len hi.placed hx
      have hpos : 1 ≤ (encW x).length := by simp [encW]
      omega), fun _ _ => rfl, fun _ _ h => h⟩
  | f + 1, st, T, mv, n, hi, hb, hf, hln, hz, hd => by
    by_cases hc : n < (flat T).length
    · obtain ⟨x, hx, hxa⟩ := hb.resolve_left (by omega)
      obtain ⟨o, ho⟩ := hi.src x hx
      obtain ⟨ho1, ho2⟩ := ho.hi (by omega)
      have hno := hcl o ho.mem (hi.dst _ _ ho2).1
      have hst : st n = 0 := hz n (Int.le_refl _)
      obtain ⟨T1, mv1, e1, ok1, inv1, sub1, len1, hnl, has1⟩ := parts_step hL h4 hno hi ⟨x, hx, hxa, ho⟩ hst
      obtain ⟨x1, hx1, hxa1, hs1⟩ := has1 n o ⟨x, hx, hxa, ho⟩
      have hel := hs1.encl
      have hpos : 1 ≤ (encW o).length := by simp [encW]
      have inv2 : Inv L low Rch (fun b => if (n : Int) ≤ b ∧ b < ((n + (encW o).length : Nat) : Int) then 1000 else st b) T1 mv1 := by
        refine inv1.congr (fun y hy => ?_) fun a ha => ?_
        · by_cases h1 : y.at_ = n
          · rw [if_pos (by omega), h1, upd_same]
          · rw [upd_ne h1, if_neg]
            intro h2
            have := no_start inv1.placed hx1 hy (by omega)
            omega
        · rw [if_neg (by omega)]
          exact hi.fresh a (by omega)
      have hb1 : (flat T1).length = n + (encW o).length ∨ ∃ y, y ∈ T1 ∧ y.at_ = ((n + (encW o).length : Nat) : Int) := by
        rcases next_start inv1.placed hx1 with h | ⟨y, hy, h⟩
        · left; rw [hel] at h; omega
        · right; exact ⟨y, hy, by rw [h, hxa1, hel]; omega⟩
      obtain ⟨T2, mv2, st2, e2, ok2, inv3, d2, u2, sub2⟩ := scan_step hL h4 hcl f _ T1 mv1 (n + (encW o).length) inv2 hb1 (by omega) (by omega)
        (fun b hb => by show (if _ then _ else _) = _; rw [if_neg (by omega)]; exact hz b (by omega))
        (fun b hb1 hb2 => by
          show (if _ then _ else _) = _
          by_cases h : (n : Int) ≤ b
          · rw [if_pos ⟨h, hb2⟩]
          · rw [if_neg (by omega)]; exact hd b hb1 (by omega))
      refine ⟨T2, mv2, st2, ?_, fun _ => ⟨ok1, by rw [e1]; exact ok2⟩, inv3, d2, fun b hb => ?_, fun a b h => sub2 a b (sub1 a b h)⟩
      · rw [scanC, if_pos (show n < (flat T).length from hc), e1]; exact e2
      · rw [u2 b hb]
        show (if _ then _ else _) = _
        rw [if_neg (by omega)]
    · refine ⟨T, mv, st, ?_, fun h => absurd h hc, hi, fun x hx hl => hd _ hl (by
        obtain ⟨m, e1, e2⟩ := placed_len hi.placed hx
        have hpos : 1 ≤ (encW x).length := by simp [encW]
        omega), fun _ _ => rfl, fun _ _ h => h⟩
      rw [scanC, if_neg (show ¬ n < (flat T).length from hc)]
end Go.Proofs.Ytagphggcdmjlpaa.P

/- A value is read as it lies in a heap: a contract. -/
namespace Go.Proofs.Ytagphggcdmjlpaa.P
open Go.Ab Go.Proofs.Ytagphggcdmjlpaa.T

/-- Words and values, pairwise; how deep at most, how many together. -/
def RepL (R : Int → List PV → Nat → Nat → Prop) : List Int → List (List PV) → Nat → Nat → Prop
  | [], [], d, c => d = 0 ∧ c = 0
  | w :: ws, x :: xs, d, c => ∃ d1 c1 d2 c2, R w x d1 c1 ∧ RepL R ws xs d2 c2 ∧ d = max d1 d2 ∧ c = c1 + c2
  | _, _, _, _ => False

/-- A word of a heap is a value, so deep, of so many nodes. -/
def Rep (g : List Int) : Nat → Int → List PV → Nat → Nat → Prop
  | 0, _, _, _, _ => False
  | f + 1, w, xs, d, c => ∃ k n text args, xs = [.lit (.int .i64 k), .lit (.int .i64 n), .lit (.string text), .sl args] ∧
    (((ofS k n text args).2 = true ∧ w = (ofS k n text args).1 ∧ d = 1 ∧ c = 1) ∨
     (∃ (a : Nat) (o : Obj) (d0 c0 : Nat), a ≤ 4000 ∧ w = (wordS 4 a).1 ∧ atS g a = (o, 0) ∧ rightS o = true ∧ kindsS o.kind = k ∧ o.num = n ∧ o.text = text ∧ RepL (Rep g f) o.parts args d0 c0 ∧ d = d0 + 1 ∧ c = c0 + 1))

theorem RepL.len {R : Int → List PV → Nat → Nat → Prop} : ∀ {ws : List Int} {xs : List (List PV)} {d c : Nat}, RepL R ws xs d c → ws.length = xs.length
  | [], [], _, _, _ => rfl
  | w :: ws, x :: xs, d, c, h => by
    obtain ⟨_, _, _, _, _, h, _⟩ := h
    simp [h.len]

theorem RepL.mono {R R' : Int → List PV → Nat → Nat → Prop} (hR : ∀ w x d c, R w x d c → R' w x d c) : ∀ {ws : List Int} {xs : List (List PV)} {d c : Nat}, RepL R ws xs d c → RepL R' ws xs d c
  | [], [], _, _, h => h
  | w :: ws, x :: xs, d, c, h => by
    obtain ⟨d1, c1, d2, c2, h1, h2, h3, h4⟩ := h
    exact ⟨d1, c1, d2, c2, hR _ _ _ _ h1, h2.mono hR, h3, h4⟩

theorem Rep.mono {g : List Int} : ∀ {f f' : Nat}, f ≤ f' → ∀ w xs d c, Rep g f w xs d c → Rep g f' w xs d c
  | 0, _, _, _, _, _, _, h => h.elim
  | f + 1, 0, hf, _, _, _, _, _ => by omega
  | f + 1, f' + 1, hf, w, xs, d, c, h => by
    obtain ⟨k, n, text, args, e, h | ⟨a, o, d0, c0, h1, h2, h3, h4, h5, h6, h7, h8, h9⟩⟩ := h
    · exact ⟨k, n, text, args, e, .inl h⟩
    · exact ⟨k, n, text, args, e, .inr ⟨a, o, d0, c0, h1, h2, h3, h4, h5, h6, h7, h8.mono (Rep.mono (by omega)), h9⟩⟩

theorem Rep.one {g : List Int} {f : Nat} {w : Int} {xs : List PV} {d c : Nat} (h : Rep g f w xs d c) : 1 ≤ d ∧ 1 ≤ c := by
  cases f with
  | zero => exact h.elim
  | succ f =>
    obtain ⟨k, n, text, args, e, h | ⟨a, o, d0, c0, _, _, _, _, _, _, _, _, h1, h2⟩⟩ := h
    · omega
    · omega

theorem RepL.zero {g : List Int} {f : Nat} {ws : List Int} {xs : List (List PV)} {d c : Nat} (h : RepL (Rep g f) ws xs d c) : ws.length ≤ c := by
  induction ws generalizing xs d c with
  | nil => exact Nat.zero_le _
  | cons w ws ih =>
    cases xs with
    | nil => exact h.elim
    | cons x xs =>
      obtain ⟨d1, c1, d2, c2, h1, h2, h3, h4⟩ := h
      have := ih h2
      have := h1.one
      simp only [List.length_cons]; omega

theorem word4_read {a : Nat} (h : a ≤ 4000) : readS (wordS 4 (a : Int)).1 = (4, (a : Int), 0) := by
  have : fits 4 (a : Int) = true := by
    unfold fits
    have h1 : decide ((a : Int) ≥ 0) = true := by simp
    have h2 : decide ((a : Int) < 1152921504606846976) = true := by simp; omega
    rw [h1, h2]; simp
  exact read_word this

end Go.Proofs.Ytagphggcdmjlpaa.P

/- What Minor and Major answer, of ages that are right. -/
namespace Go.Proofs.Ytagphggcdmjlpaa.P
open Go.Ab Go.Proofs.Ytagphggcdmjlpaa.T

theorem split_low {L : List Obj} (hL : Placed L) {low : Nat} (h : low = (flat L).length ∨ ∃ o, o ∈ L ∧ o.at_ = low) : ∃ K R, L = K ++ R ∧ (flat K).length = low := by
  rcases h with h | ⟨o, ho, ha⟩
  · exact ⟨L, [], (List.append_nil L).symm, h.symm⟩
  · obtain ⟨P, Q, rfl, e⟩ := placed_split hL ho
    exact ⟨P, o :: Q, rfl, by omega⟩

/-- The new heap, when all is turned. -/
structure Copied (L : List Obj) (low : Int) (Rch : Int → Prop) (T : List Obj) (mv : List (Int × Int)) : Prop where
  placed : Placed T
  src : ∀ x, x ∈ T → ∃ o, o ∈ L ∧ (x.at_ < low → o.at_ = x.at_) ∧ (low ≤ x.at_ → low ≤ o.at_ ∧ lk mv o.at_ = some x.at_) ∧ x.kind = o.kind ∧ x.num = o.num ∧ x.text = o.text ∧ x.parts = o.parts.map (phi low mv) ∧ ∀ p, p ∈ o.parts → Known low mv p
  dst : ∀ a t, lk mv a = some t → Rch a ∧ low ≤ t ∧ ∃ x, x ∈ T ∧ x.at_ = t
  kept : ∀ o, o ∈ L → o.at_ < low → ∃ x, x ∈ T ∧ x.at_ = o.at_
  lowT : low ≤ (flat T).length
  size : (flat T).length + restN (leftB low mv) L = (flat L).length
  inj : ∀ a b t, lk mv a = some t → lk mv b = some t → a = b

theorem rest_zero {f : Obj → Bool} : ∀ {l : List Obj}, (∀ o, o ∈ l → f o = false) → restN f l = 0
  | [], _ => rfl
  | o :: l, h => by
    show (if f o then _ else 0) + restN f l = 0
    rw [h o List.mem_cons_self, rest_zero fun x hx => h x (List.mem_cons_of_mem _ hx)]; rfl

theorem rest_full {f : Obj → Bool} : ∀ {l : List Obj}, (∀ o, o ∈ l → f o = true) → restN f l = (flat l).length
  | [], _ => rfl
  | o :: l, h => by
    show (if f o then _ else 0) + restN f l = (encW o ++ flat l).length
    rw [h o List.mem_cons_self, rest_full fun x hx => h x (List.mem_cons_of_mem _ hx), List.length_append]; rfl

theorem copy_all {L : List Obj} {low : Nat} {Rch : Int → Prop} {late ws : List Int} (hL : Placed L) (h4 : (flat L).length ≤ 4000) (hlow : low = (flat L).length ∨ ∃ o, o ∈ L ∧ o.at_ = low)
    (hl1 : late.Pairwise (· < ·)) (hl2 : ∀ t, t ∈ late → t < low ∧ ∃ o, o ∈ L ∧ o.at_ = t) (hkeep : ∀ o, o ∈ L → o.at_ < low → o.at_ ∉ late → ∀ p, p ∈ o.parts → toY low p = false)
    (hcl : ∀ o, o ∈ L → (o.at_ < low ∨ Rch o.at_) → PartsOk L low Rch o.parts) (hws : PartsOk L low Rch ws) :
    ∃ T mv, lateOK (flat L) low ((flat L).take low, []) late ∧ rootsOK (flat L) low (lateC (flat L) low ((flat L).take low, []) late) ws ∧
      scanOK (flat L) low (flat L).length (rootsC (flat L) low (lateC (flat L) low ((flat L).take low, []) late) ws).2 low ∧
      scanC (flat L) low (flat L).length (rootsC (flat L) low (lateC (flat L) low ((flat L).take low, []) late) ws).2 low = (flat T, mv) ∧
      (rootsC (flat L) low (lateC (flat L) low ((flat L).take low, []) late) ws).1 = ws.map (phi low mv) ∧ Copied L low Rch T mv ∧ ∀ w, w ∈ ws → Known low mv w := by
  obtain ⟨K, R, hKR, hKl⟩ := split_low hL hlow
  have htk : (flat L).take low = flat K := by rw [hKR, flat_append, ← hKl, List.take_left]
  rw [htk]
  have hpl := hL.1
  rw [hKR, place_append] at hpl
  obtain ⟨hK1, hR1⟩ := List.append_inj hpl (place_len _ _)
  have hK : Placed K := ⟨hK1, fun o ho => hL.2 o (by rw [hKR]; exact List.mem_append_left _ ho)⟩
  have hKat : ∀ o, o ∈ K → o.at_ < low := fun o ho => by
    obtain ⟨n, e1, e2⟩ := placed_len hK ho
    have hpos : 1 ≤ (encW o).length := by simp [encW]
    omega
  have hRat : ∀ o, o ∈ R → (low : Int) ≤ o.at_ := fun o ho => by
    rw [← hR1] at ho
    have := place_ge ho
    omega
  have hinK : ∀ o, o ∈ L → o.at_ < low → o ∈ K := fun o ho hlt => by
    rw [hKR] at ho
    rcases List.mem_append.1 ho with h | h
    · exact h
    · have := hRat o h; omega
  have hsrcK : ∀ x, x ∈ K → Src L low (fun _ => 0) [] x x := fun x hx => by
    have := hKat x hx
    refine ⟨by rw [hKR]; exact List.mem_append_left _ hx, fun _ => rfl, fun h => by omega, rfl, rfl, rfl, by rw [List.take_zero, List.drop_zero]; rfl, fun p hp => ?_⟩
    rw [List.take_zero] at hp; cases hp
  have inv0 : Inv L low Rch (fun _ => 0) K [] := by
    refine ⟨hK, fun x hx => ⟨x, hsrcK x hx⟩, fun a t h => (by cases h), fun o ho hlt => ⟨o, hinK o ho hlt, rfl⟩, by omega, fun _ _ => rfl, ?_, fun a b t h => (by cases h)⟩
    have e1 : restN (leftB low []) K = 0 := rest_zero fun o ho => by unfold leftB; rw [decide_eq_false (by have := hKat o ho; omega)]; rfl
    have e2 : restN (leftB low []) R = (flat R).length := rest_full fun o ho => by unfold leftB; rw [decide_eq_true (hRat o ho)]; rfl
    rw [hKR, rest_append, e1, e2, flat_append, List.length_append]; omega
  obtain ⟨T1, mv1, st1, e1, ok1, inv1, d1, u1, sub1, len1⟩ := late_step hL h4 late _ K [] inv0 hl1 fun t ht => by
    obtain ⟨a1, o, ho, hoa⟩ := hl2 t ht
    obtain ⟨n, en, _⟩ := placed_len hL ho
    have hk := hinK o ho (by omega)
    exact ⟨by omega, rfl, o, ⟨o, hk, hoa, hsrcK o hk⟩, hcl o ho (.inl (by omega))⟩
  obtain ⟨T2, mv2, e2, ok2, inv2, kn2, sub2, len2⟩ := roots_step hL h4 ws T1 mv1 inv1 hws
  have hb : (flat T2).length = low ∨ ∃ x, x ∈ T2 ∧ x.at_ = low := by
    by_cases hc : (flat T2).length = low
    · exact .inl hc
    · right
      have hex : ∀ {T : List Obj}, Placed T → (∃ x, x ∈ T ∧ (low : Int) ≤ x.at_) → (∀ x, x ∈ T → x.at_ < low → (∃ y, y ∈ K ∧ y.at_ = x.at_ ∧ (encW x).length = (encW y).length)) → True := fun _ _ _ => trivial
      -- the object that begins where the kept ones end
      have hfind : ∀ (l : List Obj) (a : Nat), place a l = l → a ≤ low → low < a + (flat l).length → (∀ x, x ∈ l → x.at_ < low → x.at_ + (encW x).length ≤ low) → ∃ x, x ∈ l ∧ x.at_ = low := by
        intro l
        induction l with
        | nil => intro a _ h1 h2 _; simp [flat] at h2; omega
        | cons o l ih =>
          intro a hp h1 h2 h3
          obtain ⟨p1, p2⟩ := List.cons.inj hp
          have hoa : o.at_ = a := by rw [← p1]; rfl
          by_cases hlt : a < low
          · have h5 := h3 o List.mem_cons_self (by omega)
            have : (flat (o :: l)).length = (encW o).length + (flat l).length := by show (encW o ++ flat l).length = _; rw [List.length_append]
            obtain ⟨x, hx, hxa⟩ := ih (a + (encW o).length) p2 (by omega) (by omega) fun x hx => h3 x (List.mem_cons_of_mem _ hx)
            exact ⟨x, List.mem_cons_of_mem _ hx, hxa⟩
          · exact ⟨o, List.mem_cons_self, by omega⟩
      have hlT := inv2.lowT
      refine hfind T2 0 inv2.placed.1 (Nat.zero_le _) (by omega) fun x hx hlt => ?_
      obtain ⟨o, ho⟩ := inv2.src x hx
      have hoa := ho.lo hlt
      obtain ⟨n, en, hn⟩ := placed_len hK (hinK o ho.mem (by omega))
      rw [ho.encl]; omega
  have hlate0 : ∀ b : Int, low ≤ b → st1 b = 0 := fun b hb => by
    by_cases hm : b ∈ late
    · have := (hl2 b hm).1; omega
    · exact u1 b hm
  obtain ⟨T3, mv3, st3, e3, ok3, inv3, d3, u3, sub3⟩ := scan_step hL h4 (fun o ho hr => hcl o ho (.inr hr)) (flat L).length st1 T2 mv2 low inv2 hb (by omega) (Int.le_refl _) hlate0 (fun b h1 h2 => by omega)
  refine ⟨T3, mv3, ok1, by rw [e1]; exact ok2, by rw [e1, e2]; exact ok3, by rw [e1, e2]; exact e3, ?_, ⟨inv3.placed, fun x hx => ?_, inv3.dst, inv3.kept, inv3.lowT, inv3.size, inv3.inj⟩, fun w hw => known_sub sub3 (kn2 w hw)⟩
  · rw [e1, e2]
    exact List.map_congr_left fun w hw => (phi_sub sub3 (kn2 w hw)).symm
  · obtain ⟨o, ho⟩ := inv3.src x hx
    refine ⟨o, ho.mem, ho.lo, ho.hi, ho.kind, ho.num, ho.text, ?_⟩
    have hall : st3 x.at_ = 1000 → x.parts = o.parts.map (phi low mv3) ∧ ∀ p, p ∈ o.parts → Known low mv3 p := fun he => by
      have hlen : o.parts.length ≤ 1000 := by have := (right_small (hL.2 o ho.mem).1).2; omega
      have h1 := ho.parts
      have h2 := ho.known
      rw [he, List.take_of_length_le hlen] at h1 h2
      rw [List.drop_eq_nil_of_le hlen, List.append_nil] at h1
      exact ⟨h1, h2⟩
    by_cases hlt : x.at_ < low
    · by_cases hm : x.at_ ∈ late
      · exact hall (by rw [u3 _ hlt]; exact d1 _ hm)
      · have h0 : st3 x.at_ = 0 := by rw [u3 _ hlt]; exact u1 _ hm
        have hoa := ho.lo hlt
        have hno := hkeep o ho.mem (by omega) (by rw [hoa]; exact hm)
        have h1 := ho.parts
        rw [h0, List.take_zero, List.drop_zero] at h1
        have h1 : x.parts = o.parts := h1
        refine ⟨?_, fun p hp ht => ?_⟩
        · rw [h1]
          have : o.parts.map (phi low mv3) = o.parts.map id := List.map_congr_left fun p hp => phi_not (hno p hp)
          rw [this, List.map_id]
        · rw [hno p hp] at ht; cases ht
    · exact hall (d3 x hx (by omega))

theorem place_word {t : Nat} (h : t ≤ 4000) : placeS (wordS 4 (t : Int)).1 = ((t : Int), true, 0) := by
  unfold placeS
  rw [word4_read h]
  rfl

theorem good_parts {L : List Obj} {n old : Int} {late : List Int} (hL : Placed L) (hn : n = (flat L).length) (hg : GoodA n old late L) {o : Obj} (ho : o ∈ L) : ∀ w, w ∈ o.parts → NameOk L w := fun w hw => by
  have h := hg.2.2.2.2 o ho w hw
  unfold partE at h
  split at h
  · cases h
  · rename_i h1
    simp only [Bool.or_eq_true, not_or, bne_iff_ne, ne_eq, Decidable.not_not, Bool.and_eq_true, beq_iff_eq, Bool.not_eq_true', not_and] at h1
    refine ⟨h1.1, fun hi => ?_⟩
    obtain ⟨a, b⟩ := h1.2 hi
    have b : begS n L (placeS w).1 = true := by
      cases hb : begS n L (placeS w).1 with
      | true => rfl
      | false => exact absurd hb b
    rcases begS_iff.1 b with h | h
    · exact absurd h a
    · exact h

end Go.Proofs.Ytagphggcdmjlpaa.P

/- Minor and Major, whatever they are handed: their heap an own row. -/
namespace Go.Proofs.Ytagphggcdmjlpaa.P
open Go.Ab Go.Proofs.Ytagphggcdmjlpaa.T

theorem minor_goodH {L : List Obj} {old : Int} {late ws : List Int} (hL : Placed L) (h4 : (flat L).length ≤ 4000) (hg : GoodA (flat L).length old late L) (hw : ∀ w, w ∈ ws → NameOk L w) (hwl : ws.length ≤ 100000) :
    ∃ T mv, ACalls Try.prog 38 [agesD (flat L) old late, words ws] [] (fun r obs' => r = .tup [.agg [.ref 0 0 (flat T).length, iD (flat T).length, .nil], words (ws.map (phi old mv)), iD 0] ∧ obs' = [.row 1 ((flat T).map wrow)]) ∧ Copied L old (fun _ => True) T mv ∧ ∀ w, w ∈ ws → Known old mv w := by
  obtain ⟨g1, g2, g3, g5, g6⟩ := hg
  obtain ⟨n, rfl⟩ := Int.eq_ofNat_of_zero_le g1
  have hobj : ∀ t, t < (n : Int) → begS (flat L).length L t = true → ∃ o, o ∈ L ∧ o.at_ = t := fun t ht hb => by
    rcases begS_iff.1 hb with h | h
    · have hnl : (n : Int) ≤ (flat L).length := by
        rcases begS_iff.1 g2 with h | ⟨o, ho, hoa⟩
        · omega
        · obtain ⟨m, e1, e2⟩ := placed_len hL ho; omega
      omega
    · exact h
  have hnl : n ≤ (flat L).length := by
    rcases begS_iff.1 g2 with h | ⟨o, ho, hoa⟩
    · omega
    · obtain ⟨m, e1, e2⟩ := placed_len hL ho; omega
  obtain ⟨T, mv, k1, k2, k3, k4, k5, k6, k7⟩ := copy_all (low := n) (Rch := fun _ => True) (late := late) (ws := ws) hL h4
    (by rcases begS_iff.1 g2 with h | h
        · exact .inl (by omega)
        · exact .inr h) g5 (fun t ht => ⟨(g3 t ht).1, hobj t (g3 t ht).1 (g3 t ht).2⟩)
    (fun o ho hlt hm p hp => by
      have h := g6 o ho p hp
      unfold partE at h
      split at h
      · cases h
      · split at h
        · cases h
        · rename_i h2
          cases ht : toY n p with
          | false => rfl
          | true =>
            unfold toY at ht
            simp only [Bool.and_eq_true, decide_eq_true_eq] at ht
            refine absurd ?_ h2
            have : hasI late o.at_ = false := by
              cases hh : hasI late o.at_ with
              | false => rfl
              | true => exact absurd (hasI_iff.1 hh) hm
            rw [ht.1, this, decide_eq_true hlt, decide_eq_true (show (placeS p).1 ≥ (n : Int) by omega)]
            rfl)
    (fun o ho _ w hw => ⟨good_parts hL rfl ⟨g1, g2, g3, g5, g6⟩ ho w hw, fun _ => trivial⟩) (fun w hwm => ⟨hw w hwm, fun _ => trivial⟩)
  have hok := placed_ok hL
  have hls : late.length ≤ 4001 := late_small ⟨g1, g2, g3, g5, g6⟩ (fun x hx => by
    obtain ⟨m, e1, e2⟩ := placed_len hL hx
    omega) (by omega) (by omega)
  have hnm := namedC (flat L) n late ws (by simp only [maxLen]; omega) hok (by simp only [maxLen]; omega) (by simp only [maxLen]; omega)
  rw [namedY_flat hL h4 ⟨g1, g2, g3, g5, g6⟩ hw] at hnm
  have := minorH (flat L) n late ws (flat L).length hnm h4 hnl hok hwl (by simp only [maxLen]; omega) k1 k2 k3
  rw [k4, k5] at this
  exact ⟨T, mv, this, k6, k7⟩

theorem major_goodH {L : List Obj} {old : Int} {late ws : List Int} {Rch : Int → Prop} (hL : Placed L) (h4 : (flat L).length ≤ 4000) (hg : GoodA (flat L).length old late L) (hw : ∀ w, w ∈ ws → NameOk L w) (hwl : ws.length ≤ 100000)
    (hr1 : ∀ w, w ∈ ws → (placeS w).2.1 = true → Rch (placeS w).1) (hr2 : ∀ o, o ∈ L → Rch o.at_ → ∀ w, w ∈ o.parts → (placeS w).2.1 = true → Rch (placeS w).1) :
    ∃ T mv, ACalls Try.prog 39 [agesD (flat L) old late, words ws] [] (fun r obs' => r = .tup [.agg [.ref 0 0 (flat T).length, iD (flat T).length, .nil], words (ws.map (phi 0 mv)), iD 0] ∧ obs' = [.row 1 ((flat T).map wrow)]) ∧ Copied L 0 Rch T mv ∧ ∀ w, w ∈ ws → Known 0 mv w := by
  have hyi : ∀ w, toY 0 w = true → (placeS w).2.1 = true := fun w h => by unfold toY at h; exact (Bool.and_eq_true _ _ ▸ h : _ ∧ _).1
  have hnl : ∀ o, o ∈ L → 0 ≤ o.at_ := fun o ho => by
    obtain ⟨m, e1, e2⟩ := placed_len hL ho
    omega
  have hlow : 0 = (flat L).length ∨ ∃ o, o ∈ L ∧ o.at_ = ((0 : Nat) : Int) := by
    cases hLc : L with
    | nil => exact .inl rfl
    | cons o l =>
      right
      refine ⟨o, List.mem_cons_self, ?_⟩
      have h := hL.1
      rw [hLc] at h
      rw [← (List.cons.inj h).1]; rfl
  obtain ⟨T, mv, k1, k2, k3, k4, k5, k6, k7⟩ := copy_all (low := 0) (Rch := Rch) (late := []) (ws := ws) hL h4 hlow .nil (fun t ht => (by cases ht))
    (fun o ho hlt => by have := hnl o ho; omega)
    (fun o ho hr w hw => ⟨good_parts hL rfl hg ho w hw, fun ht => by
      rcases hr with hr | hr
      · have := hnl o ho; omega
      · exact hr2 o ho hr w hw (hyi w ht)⟩) (fun w hwm => ⟨hw w hwm, fun ht => hr1 w hwm (hyi w ht)⟩)
  rw [List.take_zero] at k1 k2 k3 k4 k5
  rw [late_nil] at k2 k3 k4 k5
  have hok := placed_ok hL
  have hls : late.length ≤ 4001 := late_small hg (fun x hx => by
    obtain ⟨m, e1, e2⟩ := placed_len hL hx
    omega) (by omega) (by omega)
  have hnm := namedC (flat L) old late ws (by simp only [maxLen]; omega) hok (by simp only [maxLen]; omega) (by simp only [maxLen]; omega)
  rw [namedY_flat hL h4 hg hw] at hnm
  have := majorH (flat L) old late ws (flat L).length hnm (by simp only [maxLen]; omega) hok hwl k2 k3
  rw [show scanC (flat L) 0 (flat L).length (rootsC (flat L) 0 ([], []) ws).2 0 = (flat T, mv) from k4, show (rootsC (flat L) 0 ([], []) ws).1 = ws.map (phi 0 mv) from k5] at this
  exact ⟨T, mv, this, k6, k7⟩

/-- What Minor and Major do, whatever they are handed: their heap is an own row. -/
theorem minorW (h : List Int) (old : Int) (late ws : List Int) (hlen : h.length ≤ maxLen) (hok : ∀ w, w ∈ h → WordOk w) (hlate : late.length ≤ maxLen) (hws : ws.length ≤ 40) :
    ∃ (l : List Int) (n e : Int) (rs : List Int), l.length ≤ 4000 ∧ ACalls Try.prog 38 [agesD h old late, words ws] [] (fun r obs' => r = .tup [.agg [.ref 0 0 l.length, iD n, .nil], words rs, iD e] ∧ obs' = [.row 1 (l.map wrow)]) := by
  by_cases he : namedY h old late ws = 0
  · obtain ⟨L, h1, rfl, h3, h4, h5, h6, h7⟩ := namedY_zero hlen hok he
    obtain ⟨T, mv, q, hc, _⟩ := minor_goodH h4 h3 h5 h7 (by omega)
    have := hc.size
    exact ⟨flat T, _, 0, _, by omega, q⟩
  · exact ⟨[], 0, _, [], by simp, minorE h old _ late ws (by simpa using he) (namedC h old late ws hlen hok hlate (by simp only [maxLen]; omega))⟩

theorem majorW (h : List Int) (old : Int) (late ws : List Int) (hlen : h.length ≤ maxLen) (hok : ∀ w, w ∈ h → WordOk w) (hlate : late.length ≤ maxLen) (hws : ws.length ≤ 40) :
    ∃ (l : List Int) (n e : Int) (rs : List Int), l.length ≤ 4000 ∧ ACalls Try.prog 39 [agesD h old late, words ws] [] (fun r obs' => r = .tup [.agg [.ref 0 0 l.length, iD n, .nil], words rs, iD e] ∧ obs' = [.row 1 (l.map wrow)]) := by
  by_cases he : namedY h old late ws = 0
  · obtain ⟨L, h1, rfl, h3, h4, h5, h6, h7⟩ := namedY_zero hlen hok he
    obtain ⟨T, mv, q, hc, _⟩ := major_goodH (Rch := fun _ => True) h4 h3 h5 h7 (by omega) (fun _ _ _ => trivial) (fun _ _ _ _ _ _ => trivial)
    have := hc.size
    exact ⟨flat T, _, 0, _, by omega, q⟩
  · exact ⟨[], 0, _, [], by simp, majorE h old _ late ws (by simpa using he) (namedC h old late ws hlen hok hlate (by simp only [maxLen]; omega))⟩
end Go.Proofs.Ytagphggcdmjlpaa.P

/- The object at a place of a heap, its parts an own row: the walk. -/
namespace Go.Proofs.Ytagphggcdmjlpaa.P
open Go.Ab Go.Proofs.Ytagphggcdmjlpaa.T


theorem atP (h : List Int) (a : Int) (oo : Obj) (hlen : h.length ≤ maxLen) (hok : ∀ w, w ∈ h → WordOk w) (hfin : atS h a = (oo, 0)) :
    ACalls Try.prog 19 [words h, iD a] [] (fun r obs' => r = .tup [.agg [iD oo.at_, iD oo.kind, iD oo.num, .p (.lit (.string oo.text)), .ref 0 0 oo.parts.length], iD 0] ∧ obs' = [.row 1 (oo.parts.map wrow)]) := by
  obtain ⟨R0, hR0⟩ : ∃ R0, R0 = atS h a := ⟨_, rfl⟩
  have hv : R0 = if decide (a < 0) || decide (a ≥ h.length) then (z0, 4) else
    match h[a.toNat]? with
    | none => (z0, 0)
    | some w => if (w.fdiv (2 ^ min 32 64) != 0) || decide ((roomN (kN w) (tN w).toNat (pN w).toNat : Int) > h.length - a) then (z0, 3) else atR h a.toNat (kN w) (tN w).toNat (pN w).toNat := hR0
  rw [← hR0] at hfin
  clear hR0
  refine acallm_fnv [.cell 4 30, .tmp 5] Try.func19 rfl rfl Try.ntmps19 (by simp) (by simp) fun R hR => ?_
  (refine awp_reg_seq [0, 1, 4] fun K hK => ?_; (repeat' ((refine al_r rfl fun K' hK' => ?_); (repeat (simp only [go_sem, simprocAttr, List.length_map])); ((refine hK' _ _ ?_) <;> clear hK' K'))); all_goals (refine al_nil ?_; (simp only [go_sem, simprocAttr, List.length_map]); refine hK _ ?_; clear hK K))
  refine awp_seq_k fun K hK => ?_
  (refine awp_reg_tov [0, 1, 4, 23] [(23, bD (decide (a < 0) || decide (a ≥ (h.length : Int))))] (h := ?_) (k := ?_); · ((repeat' (first | ((first | refine al_r rfl fun K' hK' => ?_ | refine al_t rfl rfl fun K' hK' => ?_); (repeat (simp only [go_sem, simprocAttr, List.length_map])); ((first | refine hK' _ _ ?_ | refine ⟨?_, hK' _ _ ?_⟩) <;> clear hK' K' <;> (first | (show alist _ _ _ _ _ _; skip) | (intro s hs; cases hs; done)))) | refine al_e rfl rfl ?_ | ((fail_if_success (refine al_t rfl rfl fun K' hK' => ?_)); refine al_s _ rfl rfl rfl (fun hb => ?_) (fun hb => ?_)))); all_goals (refine al_nil ?_; simp only [go_sem, simprocAttr, List.length_map, *, Bool.and_true, Bool.and_false, Bool.true_and, Bool.false_and, Bool.or_true, Bool.true_or, Bool.or_false, Bool.false_or, Bool.not_true, Bool.not_false, Bool.false_eq_true]))); intro K hK; (simp only [go_sem, simprocAttr, List.length_map]); refine hK _ ?_; clear hK K
  refine awp_if (_) rfl (fun hc => ?_) (fun hc => ?_)
  · (refine awp_reg_seq [4, 5] fun K hK => ?_; (repeat' ((first | refine al_r rfl fun K' hK' => ?_ | refine al_d rfl fun K' hK' => ?_); (repeat (first | (simp only [go_sem, simprocAttr, List.length_map]) | refine AS.mk ?_)); ((first | refine hK' _ _ ?_ | refine ⟨?_, hK' _ _ ?_⟩) <;> clear hK' K' <;> (first | (show alist _ _ _ _ _ _; skip) | (simp; done))))); all_goals (refine al_nil ?_; (simp only [go_sem, simprocAttr, List.length_map]); refine hK _ ?_; clear hK K))
    exfalso
    rw [if_pos hc, hfin] at hv
    cases (Prod.mk.inj hv).2
  · rw [if_neg (by rw [hc]; simp)] at hv
    have hc0 := hc
    simp only [Bool.or_eq_false_iff, decide_eq_false_iff_not] at hc0
    obtain ⟨n, rfl⟩ := Int.eq_ofNat_of_zero_le (show 0 ≤ a by omega)
    have hnl : n < h.length := by omega
    obtain ⟨w, hw⟩ := get_of_lt hnl
    rw [Int.toNat_natCast, hw] at hv
    simp only at hv
    have hn0 : (0 : Int) ≤ (n : Int) := Int.natCast_nonneg n
    have hwok := hok w (List.mem_of_getElem? hw)
    obtain ⟨t, ht, ht4⟩ := tN_ok hwok
    obtain ⟨p, hp, hp4⟩ := pN_ok hwok
    have hkN : IntKind.i64.wrap (bits .and .u64 w 255) = kN w := rfl
    have htN : IntKind.i64.wrap (bits .and .u64 (w.fdiv (2 ^ min 8 64)) 4095) = (t : Int) := ht
    have hpN : IntKind.i64.wrap (bits .and .u64 (w.fdiv (2 ^ min 20 64)) 4095) = (p : Int) := hp
    rw [ht, hp, Int.toNat_natCast, Int.toNat_natCast] at hv
    generalize kN w = k at *
    have hro := room k t p (by omega) (by omega)
    have hwr : IntKind.i64.wrap ((h.length : Int) - (n : Int)) = (h.length : Int) - (n : Int) := by
      simp [maxLen] at hlen
      rw [Go.Ab.wrap_small (by omega) (by omega)]

    refine awp_skip ?_
    refine hK _ ?_; clear hK K
    (refine awp_reg_seq [0, 1, 4, 6] fun K hK => ?_; (repeat' ((refine al_r rfl fun K' hK' => ?_); (repeat (simp only [go_sem, simprocAttr, List.length_map, hw, hnl, hn0, hkN, htN, hpN, hwr, Int.toNat_natCast, List.getElem?_map, Option.map_some])); ((refine hK' _ _ ?_) <;> clear hK' K'))); all_goals (refine al_nil ?_; (simp only [go_sem, simprocAttr, List.length_map, hw, hnl, hn0, hkN, htN, hpN, hwr, Int.toNat_natCast, List.getElem?_map, Option.map_some]); refine hK _ ?_; clear hK K))
    (refine awp_reg_seq [0, 1, 4, 6, 7, 8, 9] fun K hK => ?_; (repeat' ((refine al_r rfl fun K' hK' => ?_); (repeat (simp only [go_sem, simprocAttr, List.length_map, hw, hnl, hn0, hkN, htN, hpN, hwr, Int.toNat_natCast, List.getElem?_map, Option.map_some])); ((refine hK' _ _ ?_) <;> clear hK' K'))); all_goals (refine al_nil ?_; (simp only [go_sem, simprocAttr, List.length_map, hw, hnl, hn0, hkN, htN, hpN, hwr, Int.toNat_natCast, List.getElem?_map, Option.map_some]); refine hK _ ?_; clear hK K))
    refine awp_seq_k fun K hK => ?_
    (refine awp_reg_tov [0, 1, 4, 7, 8, 9, 53] [(53, bD ((w.fdiv (2 ^ min 32 64) != 0) || decide ((roomN k t p : Int) > (h.length : Int) - (n : Int))))] (h := ?_) (k := ?_); · ((repeat' (first | ((first | refine al_r rfl fun K' hK' => ?_ | refine al_t rfl rfl fun K' hK' => ?_); (repeat (simp only [go_sem, simprocAttr, List.length_map, hw, hnl, hn0, hkN, htN, hpN, hwr, Int.toNat_natCast, List.getElem?_map, Option.map_some])); (first | ((first | refine hK' _ _ ?_ | refine ⟨?_, hK' _ _ ?_⟩) <;> clear hK' K' <;> (first | (show alist _ _ _ _ _ _; skip) | (intro s hs; cases hs; done))) | ((show AC _ _ (D.fn 51 _) _ _); refine acall_p (f := 51) (e := rfl) (hr := rfl) (k := hK' _ _ ?_) (hc := Try.call51) (h := hro); clear hK' K'))) | refine al_e rfl rfl ?_ | ((fail_if_success (refine al_t rfl rfl fun K' hK' => ?_)); refine al_s _ rfl rfl rfl (fun hb => ?_) (fun hb => ?_)))); all_goals (refine al_nil ?_; simp only [go_sem, simprocAttr, List.length_map, hw, hnl, hn0, hkN, htN, hpN, hwr, Int.toNat_natCast, List.getElem?_map, Option.map_some, *, Bool.and_true, Bool.and_false, Bool.true_and, Bool.false_and, Bool.or_true, Bool.true_or, Bool.or_false, Bool.false_or, Bool.not_true, Bool.not_false, Bool.false_eq_true]))); intro K hK; (simp only [go_sem, simprocAttr, List.length_map, hw, hnl, hn0, hkN, htN, hpN, hwr, Int.toNat_natCast, List.getElem?_map, Option.map_some]); refine hK _ ?_; clear hK K
    refine awp_if (_) rfl (fun hc => ?_) (fun hc => ?_)
    · (refine awp_reg_seq [4, 5] fun K hK => ?_; (repeat' ((first | refine al_r rfl fun K' hK' => ?_ | refine al_d rfl fun K' hK' => ?_); (repeat (first | (simp only [go_sem, simprocAttr, List.length_map, hw, hnl, hn0, hkN, htN, hpN, hwr, Int.toNat_natCast, List.getElem?_map, Option.map_some]) | refine AS.mk ?_)); ((first | refine hK' _ _ ?_ | refine ⟨?_, hK' _ _ ?_⟩) <;> clear hK' K' <;> (first | (show alist _ _ _ _ _ _; skip) | (simp; done))))); all_goals (refine al_nil ?_; (simp only [go_sem, simprocAttr, List.length_map, hw, hnl, hn0, hkN, htN, hpN, hwr, Int.toNat_natCast, List.getElem?_map, Option.map_some]); refine hK _ ?_; clear hK K))
      exfalso
      rw [if_pos hc, hfin] at hv
      cases (Prod.mk.inj hv).2
    · rw [if_neg (by rw [hc]; simp)] at hv
      have hroom : n + roomN k t p ≤ h.length := by
        simp only [Bool.or_eq_false_iff, decide_eq_false_iff_not] at hc
        omega
      clear hro
      have hn1 : IntKind.i64.wrap ((n : Int) + 1) = ((n + 1 : Nat) : Int) := by
        simp [maxLen] at hlen
        rw [Go.Ab.wrap_small (by omega) (by omega)]; rfl

      refine awp_skip ?_
      refine hK _ ?_; clear hK K
      (refine awp_reg_seq [0, 1, 4, 7, 8, 9, 10] fun K hK => ?_; (repeat' ((first | refine al_r rfl fun K' hK' => ?_ | refine al_d rfl fun K' hK' => ?_); (repeat (first | (simp only [go_sem, simprocAttr, List.length_map, hn1]) | refine AS.mk ?_)); ((first | refine hK' _ _ ?_ | refine ⟨?_, hK' _ _ ?_⟩) <;> clear hK' K' <;> (first | (show alist _ _ _ _ _ _; skip) | (simp; done))))); all_goals (refine al_nil ?_; (simp only [go_sem, simprocAttr, List.length_map, hn1]); refine hK _ ?_; clear hK K))
      (refine awp_reg_seq [0, 1, 4, 7, 8, 9, 10] fun K hK => ?_; (repeat' ((refine al_r rfl fun K' hK' => ?_); (repeat (simp only [go_sem, simprocAttr, List.length_map, hn1])); ((refine hK' _ _ ?_) <;> clear hK' K'))); all_goals (refine al_nil ?_; (simp only [go_sem, simprocAttr, List.length_map, hn1]); refine hK _ ?_; clear hK K))
      refine awp_seq_kc fun K hK hcut => ?_
      have key : ∀ (a1 : Nat) (num : Int), n < a1 → a1 + (t + 7) / 8 + p ≤ h.length → R0 = atO h n (objO h n k num t p a1) (a1 + (t + 7) / 8 + p - n) → K ⟨ofL [(0, words h), (1, iD a1), (4, .ptr 0 0 0), (8, iD t), (9, iD p), (10, .ptr 1 0 0)], [.box [iD 0, iD 0, iD 0, .p (.lit (.string ByteArray.empty)), .nil], .box [iD n, iD k, iD num, .p (.lit (.string ByteArray.empty)), .nil]], 0⟩ := by
        clear hcut
        intro a1 num ha1 hfit hR1
        clear hv
        simp [maxLen] at hlen
        refine hK _ ?_; clear hK K
        (refine awp_reg_seq [0, 1, 4, 8, 9, 10, 11] fun K hK => ?_; (repeat' ((refine al_r rfl fun K' hK' => ?_); (repeat (simp only [go_sem, simprocAttr, List.length_map, hn1])); ((refine hK' _ _ ?_) <;> clear hK' K'))); all_goals (refine al_nil ?_; (simp only [go_sem, simprocAttr, List.length_map, hn1]); refine hK _ ?_; clear hK K))
        refine awp_born 11 1 rfl ?_
        refine awp_seq_k fun K hK => ?_
        (refine awp_reg_seq [0, 1, 4, 8, 9, 10, 11, 74, 75] fun K hK => ?_; (repeat' ((refine al_r rfl fun K' hK' => ?_); (repeat (simp only [go_sem, simprocAttr, List.length_map, hn1])); ((refine hK' _ _ ?_) <;> clear hK' K'))); all_goals (refine al_nil ?_; (simp only [go_sem, simprocAttr, List.length_map, hn1]); refine hK _ ?_; clear hK K))
        refine awp_block ?_
        -- loop 0 head [0, 1, 4, 8, 9, 10, 11, 74, 75]
        refine awp_loop_cut (fun m s => ∃ i : Nat, i ≤ t ∧ m = t - i ∧ s = ⟨ofL [(0, words h), (1, iD a1), (4, .ptr 0 0 0), (8, iD t), (9, iD p), (10, .ptr 1 0 0), (11, .ref 2 0 i), (74, iD t), (75, iD i)], [.box [iD 0, iD 0, iD 0, .p (.lit (.string ByteArray.empty)), .nil], .box [iD n, iD k, iD num, .p (.lit (.string ByteArray.empty)), .nil], .row 1 ((bytesN h a1 i).map brow)], 0⟩) ⟨_, 0, Nat.zero_le _, rfl, rfl⟩ ?_
        rintro m s ⟨i, hi, hmi, rfl⟩
        (refine awp_reg_seq [0, 1, 4, 8, 9, 10, 11, 74, 75, 76] fun K hK => ?_; (repeat' ((refine al_r rfl fun K' hK' => ?_); (repeat (simp only [go_sem, simprocAttr, List.length_map, hn1])); ((refine hK' _ _ ?_) <;> clear hK' K'))); all_goals (refine al_nil ?_; (simp only [go_sem, simprocAttr, List.length_map, hn1]); refine hK _ ?_; clear hK K))
        refine awp_seq_k fun K hK => ?_
        refine awp_if (decide ((i : Int) < (t : Int))) rfl (fun hc => ?_) (fun hc => ?_)
        · refine awp_skip ?_
          refine hK _ ?_; clear hK K
          refine awp_seq_k fun K hK => ?_
          refine awp_block ?_
          have hi2 : i < t := by simpa using hc
          obtain ⟨u, hget⟩ := get_of_lt (l := h) (i := a1 + i / 8) (by omega)
          have hgl := lt_of_get hget
          have hg0 : (0 : Int) ≤ ((a1 + i / 8 : Nat) : Int) := Int.natCast_nonneg _
          have hix : IntKind.i64.wrap ((i : Int) + 1) = ((i + 1 : Nat) : Int) := by rw [Go.Ab.wrap_small (by omega) (by omega)]; rfl
          have hq8 : IntKind.i64.wrap ((i : Int).tdiv 8) = ((i / 8 : Nat) : Int) := by
            rw [Int.tdiv_eq_ediv_of_nonneg (by omega), Go.Ab.wrap_small (by omega) (by omega)]; omega
          have hqa : IntKind.i64.wrap ((a1 : Int) + ((i / 8 : Nat) : Int)) = ((a1 + i / 8 : Nat) : Int) := by rw [Go.Ab.wrap_small (by omega) (by omega)]; rfl
          have hrm : (i : Int).tmod 8 = ((i % 8 : Nat) : Int) := by rw [Int.tmod_eq_emod_of_nonneg (by omega)]; omega
          have hm8 : IntKind.i64.wrap (8 * ((i % 8 : Nat) : Int)) = ((8 * (i % 8) : Nat) : Int) := by rw [Go.Ab.wrap_small (by omega) (by omega)]; omega
          have h80 : (0 : Int) ≤ ((8 * (i % 8) : Nat) : Int) := Int.natCast_nonneg _
          have hby : IntKind.u8.wrap (u.fdiv (2 ^ min (8 * (i % 8)) 64)) = byteN h a1 i := by unfold byteN; simp [List.getD, hget]
          have hti : List.take i ((bytesN h a1 i).map brow) = (bytesN h a1 i).map brow := List.take_of_length_le (by simp [bytesN])
          have hbl : (bytesN h a1 i).length = i := by simp [bytesN]
          have hfi : (i + 1) * 1 ≤ 140737488355328 := by omega

          (refine awp_reg_seq [0, 1, 4, 8, 9, 10, 11, 12, 74, 75] fun K hK => ?_; (repeat' ((refine al_r rfl fun K' hK' => ?_); (repeat (simp only [go_sem, simprocAttr, hget, hgl, hg0, hix, hq8, hqa, hrm, hm8, h80, hby, hti, hbl, hfi, Int.toNat_natCast, List.getElem?_map, Option.map_some, List.length_map, List.drop_zero, Nat.mul_one])); ((refine hK' _ _ ?_) <;> clear hK' K'))); all_goals (refine al_nil ?_; (simp only [go_sem, simprocAttr, hget, hgl, hg0, hix, hq8, hqa, hrm, hm8, h80, hby, hti, hbl, hfi, Int.toNat_natCast, List.getElem?_map, Option.map_some, List.length_map, List.drop_zero, Nat.mul_one]); refine hK _ ?_; clear hK K))
          (refine awp_reg_end [0, 1, 4, 8, 9, 10, 11, 74, 75] fun K hK => ?_; (repeat' ((refine al_r rfl fun K' hK' => ?_); (repeat (first | (simp only [go_sem, simprocAttr, hget, hgl, hg0, hix, hq8, hqa, hrm, hm8, h80, hby, hti, hbl, hfi, Int.toNat_natCast, List.getElem?_map, Option.map_some, List.length_map, List.drop_zero, Nat.mul_one]) | refine AAp.grow ?_)); ((first | refine hK' _ _ ?_ | refine ⟨?_, ?_, ?_, hK' _ _ ?_⟩) <;> clear hK' K' <;> (first | (show alist _ _ _ _ _ _; skip) | (simp; done) | omega)))); all_goals (refine al_nil ?_; (simp only [go_sem, simprocAttr, hget, hgl, hg0, hix, hq8, hqa, hrm, hm8, h80, hby, hti, hbl, hfi, Int.toNat_natCast, List.getElem?_map, Option.map_some, List.length_map, List.drop_zero, Nat.mul_one]); refine hK _ ?_; clear hK K))
          refine hK _ ?_; clear hK K
          (refine awp_reg_end [0, 1, 4, 8, 9, 10, 11, 74, 75] fun K hK => ?_; (repeat' ((refine al_r rfl fun K' hK' => ?_); (repeat (simp only [go_sem, simprocAttr, hget, hgl, hg0, hix, hq8, hqa, hrm, hm8, h80, hby, hti, hbl, hfi, Int.toNat_natCast, List.getElem?_map, Option.map_some, List.length_map, List.drop_zero, Nat.mul_one])); ((refine hK' _ _ ?_) <;> clear hK' K'))); all_goals (refine al_nil ?_; (simp only [go_sem, simprocAttr, hget, hgl, hg0, hix, hq8, hqa, hrm, hm8, h80, hby, hti, hbl, hfi, Int.toNat_natCast, List.getElem?_map, Option.map_some, List.length_map, List.drop_zero, Nat.mul_one]); refine hK _ ?_; clear hK K))
          refine ⟨t - (i + 1), by omega, [0, 1, 4, 8, 9, 10, 11, 74, 75], [0, 1, 4], by decide, by intro q hq; exact absurd hq (Nat.not_lt_zero q), i + 1, hi2, rfl, ?_⟩
          rw [bytesN_succ, List.map_append]
          simp only [go_sem, simprocAttr, hget, hgl, hg0, hix, hq8, hqa, hrm, hm8, h80, hby, hti, hbl, hfi, Int.toNat_natCast, List.getElem?_map, Option.map_some, List.length_map, List.drop_zero, Nat.mul_one]
        · have hit : t = i := by simp at hc; omega
          subst hit
          have htB : List.take t ((bytesN h a1 t).map brow) = (bytesN h a1 t).map brow := List.take_of_length_le (by simp [bytesN])
          have hbb : ((bytesN h a1 t).map brow).mapM oneB = some (bytesN h a1 t) := bytes_map _
          have h7a : IntKind.i64.wrap ((t : Int) + 7) = ((t + 7 : Nat) : Int) := by rw [Go.Ab.wrap_small (by omega) (by omega)]; rfl
          have h7b : IntKind.i64.wrap (((t + 7 : Nat) : Int).tdiv 8) = (((t + 7) / 8 : Nat) : Int) := by
            rw [Int.tdiv_eq_ediv_of_nonneg (by omega), Go.Ab.wrap_small (by omega) (by omega)]; omega
          have h7c : IntKind.i64.wrap ((a1 : Int) + (((t + 7) / 8 : Nat) : Int)) = ((a1 + (t + 7) / 8 : Nat) : Int) := by rw [Go.Ab.wrap_small (by omega) (by omega)]; rfl
          generalize hA2 : a1 + (t + 7) / 8 = a2 at *
          have hAp : IntKind.i64.wrap ((a2 : Int) + (p : Int)) = ((a2 + p : Nat) : Int) := by rw [Go.Ab.wrap_small (by omega) (by omega)]; rfl
          have ha0 : (0 : Int) ≤ (a2 : Int) := Int.natCast_nonneg _
          have ha01 : (0 : Int) ≤ ((a2 + p : Nat) : Int) := Int.natCast_nonneg _
          have ha3 : ((a2 + p : Nat) : Int) ≤ (h.length : Int) := by omega
          have ha4 : (a2 : Int) ≤ ((a2 + p : Nat) : Int) := by omega
          have hrw := wrow1 h
          obtain ⟨P, hP⟩ : ∃ P, P = (h.drop a2).take p := ⟨_, rfl⟩
          have hPl : P.length = p := by rw [hP]; exact cut_len h (by omega)
          have hPw := wrow1 P
          have hdt : List.drop a2 (List.take (a2 + p) (h.map wrow)) = P.map wrow := by rw [hP, List.drop_take, Nat.add_sub_cancel_left, List.map_take, List.map_drop]
          have hPt : List.take p (P.map wrow) = P.map wrow := List.take_of_length_le (by simp [hPl])
          have hPf : p * 8 ≤ 140737488355328 := by omega

          refine awp_exit ?_
          clear hK
          refine hK _ ?_; clear hK K
          (refine awp_reg_seq [0, 1, 4, 9, 10] fun K hK => ?_; (repeat' ((first | refine al_r rfl fun K' hK' => ?_ | refine al_d rfl fun K' hK' => ?_); (repeat (first | (simp only [go_sem, simprocAttr, List.length_map, htB, hbb, h7a, h7b, h7c, List.drop_zero]) | refine AS.mk ?_)); ((first | refine hK' _ _ ?_ | refine ⟨?_, hK' _ _ ?_⟩) <;> clear hK' K' <;> (first | (show alist _ _ _ _ _ _; skip) | (simp; done))))); all_goals (refine al_nil ?_; (simp only [go_sem, simprocAttr, List.length_map, htB, hbb, h7a, h7b, h7c, List.drop_zero]); refine hK _ ?_; clear hK K))
          (refine awp_frz [0, 1, 4, 9, 10] [0, 1] (by decide) (by (simp; done)) ?_; simp only [go_sem, simprocAttr, List.length_map, htB, hbb, h7a, h7b, h7c, List.drop_zero])
          refine awp_born_box 1 4 1 rfl rfl ?_
          simp only [go_sem, simprocAttr, List.length_map, htB, hbb, h7a, h7b, h7c, List.drop_zero]

          refine awp_draw_seq (by kernel_rfl) [0, 1, 4, 9, 10] fun K hK => ?_
          have key : K (⟨ofL [(0, words h), (1, iD a2), (4, .ptr 0 0 0), (9, iD p), (10, .ptr 1 0 0)], [.box [iD 0, iD 0, iD 0, .p (.lit (.string ByteArray.empty)), .nil], .box [iD n, iD k, iD num, .p (.lit (.string (pushB (bytesN h a1 t)))), .ref 3 0 p], .dead, .row 1 (P.map wrow)], 0⟩) := by
            refine hK _ ?_; clear hK K
            obtain ⟨o, ho⟩ : ∃ o : Obj, o = ⟨n, k, num, pushB (bytesN h a1 t), P⟩ := ⟨_, rfl⟩
            have hoo : objO h n k num t p a1 = o := by unfold objO; rw [ho, hA2, hP]
            have hR2 : R0 = if ((putS [] o).2.2 != 0) || !(listEq eqI (putS [] o).1 ((h.drop n).take (a2 + p - n))) then (z0, 3) else (o, 0) := by rw [hR1, hoo]; rfl
            have hxl := put_len [] o (by simp)
            have heq := equalW (putS [] o).1 ((h.drop n).take (a2 + p - n)) (by simp at hxl; simp [maxLen]; omega)
            obtain ⟨hg, hle, hso⟩ : (putS [] o).2.2 = 0 ∧ listEq eqI (putS [] o).1 ((h.drop n).take (a2 + p - n)) = true ∧ oo = o := by
              rw [hfin] at hR2
              split at hR2
              · cases (Prod.mk.inj hR2).2
              · rename_i hcc
                simp only [Bool.or_eq_true, not_or, bne_iff_ne, ne_eq, Decidable.not_not, Bool.not_eq_true', Bool.not_eq_false] at hcc
                exact ⟨hcc.1, hcc.2, (Prod.mk.inj hR2).1⟩
            subst hso
            have hpu1 := putO [] oo (by simp) hg
            have hop : oo.parts.length = p := by rw [ho]; exact hPl
            have htp : List.take p (oo.parts.map wrow) = oo.parts.map wrow := List.take_of_length_le (by simp [hop])
            unfold objD words at hpu1
            rw [← htp] at hpu1
            have hpu := hpu1
            clear hpu1
            rw [hle] at heq
            generalize (putS [] oo).1 = x at hpu heq
            have hpuF := flat_w x
            have htx : List.take x.length (x.map wrow) = x.map wrow := List.take_of_length_le (by simp)
            unfold words at heq
            have heq2 : ACallP Try.prog 18 [.p (.sl (List.take x.length (x.map wrow))), .p (.sl (((h.drop n).take (a2 + p - n)).map wrow))] (bD true) := by rw [htx]; exact heq
            have hdn : List.drop n (List.take (a2 + p) (h.map wrow)) = ((h.drop n).take (a2 + p - n)).map wrow := by rw [List.drop_take, List.map_take, List.map_drop]
            have hnle : (n : Int) ≤ ((a2 + p : Nat) : Int) := by omega
            have hov : oo.at_ = n ∧ oo.kind = k ∧ oo.num = num ∧ oo.text = pushB (bytesN h a1 t) ∧ oo.parts = P := by rw [ho]; exact ⟨rfl, rfl, rfl, rfl, rfl⟩
            obtain ⟨v1, v2, v3, v4, v5⟩ := hov
            clear ho hoo hR1
            rw [← v1, ← v2, ← v3, ← v4, ← v5]
            refine awp_seq_k fun K hK => ?_

            (refine awp_reg_seq [0, 1, 4, 9, 10, 13, 15] fun K hK => ?_; (repeat' ((refine al_r rfl fun K' hK' => ?_); (repeat (simp only [go_sem, simprocAttr, List.length_map])); (first | ((refine hK' _ _ ?_) <;> clear hK' K') | ((show AC _ _ (D.fn 17 _) _ _); refine acall_gn (f := 17) Try.call17 hpu rfl (by simp [D.all, D.allL, flatL, flatPV]) (hfo := hpuF) ?_; (simp only [go_sem, simprocAttr, List.length_map]); refine hK' _ _ ?_; clear hK' K')))); all_goals (refine al_nil ?_; (simp only [go_sem, simprocAttr, List.length_map]); refine hK _ ?_; clear hK K))

            (refine awp_reg_seq [4, 10, 131] fun K hK => ?_; (repeat' ((first | refine al_r rfl fun K' hK' => ?_ | refine al_t rfl rfl fun K' hK' => ?_); (repeat (simp only [go_sem, simprocAttr, List.length_map, v1, hdn, hn0, hnle, hAp, ha01, ha3, Int.toNat_natCast, bne_self_eq_false])); (first | ((first | refine hK' _ _ ?_ | refine ⟨?_, hK' _ _ ?_⟩) <;> clear hK' K' <;> (first | (show alist _ _ _ _ _ _; skip) | assumption)) | ((show AC _ _ (D.fn 18 _) _ _); refine acall_g (f := 18) (e := rfl) (hr := rfl) (hf := by simp [D.all, D.allL, flatL, flatPV]) (k := hK' _ _ ?_) (hc := Try.call18) (h := heq2); clear hK' K')))); all_goals (refine al_nil ?_; (simp only [go_sem, simprocAttr, List.length_map, v1, hdn, hn0, hnle, hAp, ha01, ha3, Int.toNat_natCast, bne_self_eq_false]); refine hK _ ?_; clear hK K))
            refine awp_if (_) rfl (fun hc => ?_) (fun hc => ?_)
            · cases hc
            · refine awp_skip ?_
              refine hK _ ?_; clear hK K

              (refine awp_reg_seq [4, 5] fun K hK => ?_; (repeat' ((first | refine al_r rfl fun K' hK' => ?_ | refine al_d rfl fun K' hK' => ?_); (repeat (first | (simp only [go_sem, simprocAttr, List.length_map, v1]) | refine AS.mk ?_)); ((first | refine hK' _ _ ?_ | refine ⟨?_, hK' _ _ ?_⟩) <;> clear hK' K' <;> (first | (show alist _ _ _ _ _ _; skip) | (simp; done))))); all_goals (refine al_nil ?_; (simp only [go_sem, simprocAttr, List.length_map, v1]); refine hK _ ?_; clear hK K))
              refine awp_ret (hR _ _ (.inl rfl) rfl ⟨[3], (.tup [.agg [iD oo.at_, iD oo.kind, iD oo.num, .p (.lit (.string oo.text)), .ref 3 0 p], iD 0]), by decide, by simp only [List.length_cons, List.length_nil]; decide, ?_, ?_⟩)
              · simp only [go_sem, simprocAttr, List.length_map, v1, v1]
              · refine ⟨?_, ?_⟩ <;> simp only [go_sem, simprocAttr, List.length_map, v1, hop]

          ((refine ah_r 0 rfl (by kernel_rfl) rfl fun K' hK' => ?_); (simp only [go_sem, simprocAttr, List.length_map, hdt, hPl, hPt, hPf, hAp, Nat.zero_add, ha0, ha01, ha3, ha4, Int.toNat_natCast, List.take_nil, List.take_zero, List.nil_append]); ((refine hK' _ ?_); clear hK' K'))
          ((refine ah_r 2 rfl (by kernel_rfl) rfl fun K' hK' => ?_); (simp only [go_sem, simprocAttr, List.length_map, hdt, hPl, hPt, hPf, hAp, Nat.zero_add, ha0, ha01, ha3, ha4, Int.toNat_natCast, List.take_nil, List.take_zero, List.nil_append]); ((refine hK' _ ?_); clear hK' K'))
          ((refine ah_r 3 rfl (by kernel_rfl) rfl fun K' hK' => ?_); (simp only [go_sem, simprocAttr, List.length_map, hdt, hPl, hPt, hPf, hAp, Nat.zero_add, ha0, ha01, ha3, ha4, Int.toNat_natCast, List.take_nil, List.take_zero, List.nil_append]); ((refine hK' _ ?_); clear hK' K'))
          ((refine ah_r 4 rfl (by kernel_rfl) rfl fun K' hK' => ?_); (simp only [go_sem, simprocAttr, List.length_map, hdt, hPl, hPt, hPf, hAp, Nat.zero_add, ha0, ha01, ha3, ha4, Int.toNat_natCast, List.take_nil, List.take_zero, List.nil_append]); ((refine hK' _ ?_); clear hK' K'))
          ((refine ah_r 5 rfl (by kernel_rfl) rfl fun K' hK' => ?_); (simp only [go_sem, simprocAttr, List.length_map, hdt, hPl, hPt, hPf, hAp, Nat.zero_add, ha0, ha01, ha3, ha4, Int.toNat_natCast, List.take_nil, List.take_zero, List.nil_append]); ((refine hK' _ ?_); clear hK' K'))
          ((refine ah_r 6 rfl (by kernel_rfl) rfl fun K' hK' => ?_); (simp only [go_sem, simprocAttr, List.length_map, hdt, hPl, hPt, hPf, hAp, Nat.zero_add, ha0, ha01, ha3, ha4, Int.toNat_natCast, List.take_nil, List.take_zero, List.nil_append]); ((refine hK' _ ?_); clear hK' K'))
          refine ah_two 1 7 rfl rfl (by kernel_rfl) ?_ ?_
          · ((repeat' ((refine al_r rfl fun K' hK' => ?_); (repeat (simp only [go_sem, simprocAttr, List.length_map, hdt, hPl, hPt, hPf, hAp, Nat.zero_add, ha0, ha01, ha3, ha4, Int.toNat_natCast, List.take_nil, List.take_zero, List.nil_append])); ((refine hK' _ _ ?_) <;> clear hK' K'))); all_goals refine al_nil ?_)
            (refine ah_one 7 rfl (by kernel_rfl) ?_; (repeat' ((refine al_r rfl fun K' hK' => ?_); (repeat (simp only [go_sem, simprocAttr, List.length_map, hdt, hPl, hPt, hPf, hAp, Nat.zero_add, ha0, ha01, ha3, ha4, Int.toNat_natCast, List.take_nil, List.take_zero, List.nil_append])); ((refine ⟨?_, hK' _ _ ?_⟩) <;> clear hK' K' <;> (first | (show alist _ _ _ _ _ _; skip) | assumption)))); all_goals refine al_nil ?_)
            (refine ah_one 8 rfl (by kernel_rfl) ?_; (repeat' ((refine al_r rfl fun K' hK' => ?_); (repeat (first | (simp only [go_sem, simprocAttr, List.length_map, hdt, hPl, hPt, hPf, hAp, Nat.zero_add, ha0, ha01, ha3, ha4, Int.toNat_natCast, List.take_nil, List.take_zero, List.nil_append]) | refine AAp.grow ?_)); ((refine ⟨?_, hK' _ _ ?_⟩) <;> clear hK' K' <;> (first | (show alist _ _ _ _ _ _; skip) | assumption)))); all_goals refine al_nil ?_)
            ((refine ah_r 9 rfl (by kernel_rfl) rfl fun K' hK' => ?_); (simp only [go_sem, simprocAttr, List.length_map, hdt, hPl, hPt, hPf, hAp, Nat.zero_add, ha0, ha01, ha3, ha4, Int.toNat_natCast, List.take_nil, List.take_zero, List.nil_append]); ((refine hK' _ ?_); clear hK' K'))
            (refine ah_one 10 rfl (by kernel_rfl) ?_; (repeat' ((refine al_d rfl fun K' hK' => ?_); (repeat (first | (simp only [go_sem, simprocAttr, List.length_map, hdt, hPl, hPt, hPf, hAp, Nat.zero_add, ha0, ha01, ha3, ha4, Int.toNat_natCast, List.take_nil, List.take_zero, List.nil_append]) | refine AS.mk ?_)); ((refine ⟨?_, hK' _ _ ?_⟩) <;> clear hK' K' <;> (first | (show alist _ _ _ _ _ _; skip) | (simp; done))))); all_goals refine al_nil ?_)
            (refine ah_done (by kernel_rfl) ?_; (simp only [go_sem, simprocAttr, List.length_map, hdt, hPl, hPt, hPf, hAp, Nat.zero_add, ha0, ha01, ha3, ha4, Int.toNat_natCast, List.take_nil, List.take_zero, List.nil_append]); exact key)
          · ((repeat' ((refine al_r rfl fun K' hK' => ?_); (repeat (simp only [go_sem, simprocAttr, List.length_map, hdt, hPl, hPt, hPf, hAp, Nat.zero_add, ha0, ha01, ha3, ha4, Int.toNat_natCast, List.take_nil, List.take_zero, List.nil_append])); ((refine ⟨?_, hK' _ _ ?_⟩) <;> clear hK' K' <;> (first | (show alist _ _ _ _ _ _; skip) | assumption)))); all_goals refine al_nil ?_)
            (refine ah_one 1 rfl (by kernel_rfl) ?_; (repeat' ((refine al_r rfl fun K' hK' => ?_); (repeat (simp only [go_sem, simprocAttr, List.length_map, hdt, hPl, hPt, hPf, hAp, Nat.zero_add, ha0, ha01, ha3, ha4, Int.toNat_natCast, List.take_nil, List.take_zero, List.nil_append])); ((refine hK' _ _ ?_) <;> clear hK' K'))); all_goals refine al_nil ?_)
            (refine ah_one 8 rfl (by kernel_rfl) ?_; (repeat' ((refine al_r rfl fun K' hK' => ?_); (repeat (first | (simp only [go_sem, simprocAttr, List.length_map, hdt, hPl, hPt, hPf, hAp, Nat.zero_add, ha0, ha01, ha3, ha4, Int.toNat_natCast, List.take_nil, List.take_zero, List.nil_append]) | refine AAp.grow ?_)); ((refine ⟨?_, hK' _ _ ?_⟩) <;> clear hK' K' <;> (first | (show alist _ _ _ _ _ _; skip) | assumption)))); all_goals refine al_nil ?_)
            ((refine ah_r 9 rfl (by kernel_rfl) rfl fun K' hK' => ?_); (simp only [go_sem, simprocAttr, List.length_map, hdt, hPl, hPt, hPf, hAp, Nat.zero_add, ha0, ha01, ha3, ha4, Int.toNat_natCast, List.take_nil, List.take_zero, List.nil_append]); ((refine hK' _ ?_); clear hK' K'))
            (refine ah_one 10 rfl (by kernel_rfl) ?_; (repeat' ((refine al_d rfl fun K' hK' => ?_); (repeat (first | (simp only [go_sem, simprocAttr, List.length_map, hdt, hPl, hPt, hPf, hAp, Nat.zero_add, ha0, ha01, ha3, ha4, Int.toNat_natCast, List.take_nil, List.take_zero, List.nil_append]) | refine AS.mk ?_)); ((refine ⟨?_, hK' _ _ ?_⟩) <;> clear hK' K' <;> (first | (show alist _ _ _ _ _ _; skip) | (simp; done))))); all_goals refine al_nil ?_)
            (refine ah_done (by kernel_rfl) ?_; (simp only [go_sem, simprocAttr, List.length_map, hdt, hPl, hPt, hPf, hAp, Nat.zero_add, ha0, ha01, ha3, ha4, Int.toNat_natCast, List.take_nil, List.take_zero, List.nil_append]); exact key)

      (refine awp_reg_tov [0, 1, 4, 8, 9, 10, 65] [(65, bD (k == 1 || k == 4))] (h := ?_) (k := ?_); · ((repeat' (first | ((first | refine al_r rfl fun K' hK' => ?_ | refine al_t rfl rfl fun K' hK' => ?_); (repeat (simp only [go_sem, simprocAttr, List.length_map, hn1])); ((refine hK' _ _ ?_) <;> clear hK' K')) | refine al_e rfl rfl ?_ | ((fail_if_success (refine al_t rfl rfl fun K' hK' => ?_)); refine al_s _ rfl rfl rfl (fun hb => ?_) (fun hb => ?_)))); all_goals (refine al_nil ?_; simp only [go_sem, simprocAttr, List.length_map, hn1, *, Bool.and_true, Bool.and_false, Bool.true_and, Bool.false_and, Bool.or_true, Bool.true_or, Bool.or_false, Bool.false_or, Bool.not_true, Bool.not_false, Bool.false_eq_true]))); intro K hK; (simp only [go_sem, simprocAttr, List.length_map, hn1]); refine hK _ ?_; clear hK K
      refine awp_if (numK k) rfl (fun hc => ?_) (fun hc => ?_)
      · have hrm : roomN k t p = 1 + (t + 7) / 8 + p + 1 := by unfold roomN; rw [if_pos hc]
        obtain ⟨v, hv1⟩ := get_of_lt (l := h) (i := n + 1) (by omega)
        have hvl := lt_of_get hv1
        have hRa : R0 = atO h n (objO h n k (IntKind.i64.wrap v) t p (n + 2)) (n + 2 + (t + 7) / 8 + p - n) := by
          rw [hv]; unfold atR; rw [if_pos hc, show h.getD (n + 1) 0 = v by simp [List.getD, hv1]]
        have hn2 : IntKind.i64.wrap (((n + 1 : Nat) : Int) + 1) = ((n + 2 : Nat) : Int) := by
          simp [maxLen] at hlen
          rw [Go.Ab.wrap_small (by omega) (by omega)]; rfl
        have hn10 : (0 : Int) ≤ ((n + 1 : Nat) : Int) := Int.natCast_nonneg _

        (refine awp_reg_seq [0, 1, 4, 8, 9, 10] fun K hK => ?_; (repeat' ((first | refine al_r rfl fun K' hK' => ?_ | refine al_d rfl fun K' hK' => ?_); (repeat (first | (simp only [go_sem, simprocAttr, List.length_map, hv1, hvl, hn2, hn10, Int.toNat_natCast, List.getElem?_map, Option.map_some]) | refine AS.mk ?_)); ((first | refine hK' _ _ ?_ | refine ⟨?_, hK' _ _ ?_⟩) <;> clear hK' K' <;> (first | (show alist _ _ _ _ _ _; skip) | (simp; done))))); all_goals (refine al_nil ?_; (simp only [go_sem, simprocAttr, List.length_map, hv1, hvl, hn2, hn10, Int.toNat_natCast, List.getElem?_map, Option.map_some]); refine hK _ ?_; clear hK K))
        (refine awp_reg_end [0, 1, 4, 8, 9, 10] fun K hK => ?_; (repeat' ((refine al_r rfl fun K' hK' => ?_); (repeat (simp only [go_sem, simprocAttr, List.length_map, hv1, hvl, hn2, hn10, Int.toNat_natCast, List.getElem?_map, Option.map_some])); ((refine hK' _ _ ?_) <;> clear hK' K'))); all_goals (refine al_nil ?_; (simp only [go_sem, simprocAttr, List.length_map, hv1, hvl, hn2, hn10, Int.toNat_natCast, List.getElem?_map, Option.map_some]); refine hK _ ?_; clear hK K))
        (refine hcut _ [0, 1, 4, 8, 9, 10] [0, 1] (by decide) (by intro q hq; exact absurd hq (Nat.not_lt_zero q)) ?_; simp only [go_sem, simprocAttr, List.length_map, hv1, hvl, hn2, hn10, Int.toNat_natCast, List.getElem?_map, Option.map_some]; (exact key (n + 2) _ (by omega) (by omega) hRa))
      · have hrm : roomN k t p = 1 + (t + 7) / 8 + p := by unfold roomN; rw [if_neg (by rw [hc]; simp)]; rfl
        have hRb : R0 = atO h n (objO h n k 0 t p (n + 1)) (n + 1 + (t + 7) / 8 + p - n) := by
          rw [hv]; unfold atR; rw [if_neg (by rw [hc]; simp)]

        refine awp_skip ?_
        (refine hcut _ [0, 1, 4, 8, 9, 10] [0, 1] (by decide) (by intro q hq; exact absurd hq (Nat.not_lt_zero q)) ?_; simp only [go_sem, simprocAttr, List.length_map]; (exact key (n + 1) 0 (by omega) (by omega) hRb))
end Go.Proofs.Ytagphggcdmjlpaa.P

/- Carry's put: contracts. -/
namespace Go.Proofs.Ytagphggcdmjlpaa.P
open Go.Ab Go.Proofs.Ytagphggcdmjlpaa.T

/-- What a copier has: what is left, what it copies into, and the words that stand for places. -/
abbrev CT := List Int × List Int × List (Int × Int)

def embW (m : List (Int × Int)) : List (Value × PV) := m.map fun e => (.int .i64 e.1, .lit (.int .u64 e.2))
theorem embW_keys (m : List (Int × Int)) : intKeys .i64 (embW m) := fun e he => by
  obtain ⟨x, _, rfl⟩ := List.mem_map.1 he
  exact ⟨x.1, rfl⟩
theorem mget_embW : ∀ (m : List (Int × Int)) (n : Int), mget (embW m) n = (lk m n).map fun t => .lit (.int .u64 t)
  | [], _ => rfl
  | (a, b) :: l, n => by
    show (if a = n then some (PV.lit (.int .u64 b)) else mget (embW l) n) = _
    unfold lk
    rw [mget_embW l n]
    split <;> rfl
/-- A list, written to at a place. -/
def ups : List (Int × Int) → Int → Int → List (Int × Int)
  | [], a, x => [(a, x)]
  | (b, y) :: l, a, x => if b = a then (b, x) :: l else (b, y) :: ups l a x
theorem mset_embW : ∀ (m : List (Int × Int)) (a x : Int), mset .i64 a (.lit (.int .u64 x)) (embW m) = embW (ups m a x)
  | [], _, _ => rfl
  | (c, d) :: l, a, b => by
    show (if c = a then _ else (Value.int .i64 c, PV.lit (.int .u64 d)) :: mset .i64 a (.lit (.int .u64 b)) (embW l)) = _
    unfold ups
    rw [mset_embW l a b]
    split <;> rfl

abbrev cpD (g : List Int) (n m i : Nat) : Ob := .box [words g, .ref 1 0 n, .ref i 0 m, .mp 3]
abbrev cpA (g : List Int) (S : CT) : List Ob := [cpD g S.1.length S.2.1.length 2, .row 1 (S.1.map wrow), .row 1 (S.2.1.map wrow), .map (embW S.2.2)]
abbrev cpB (g : List Int) (S : CT) : List Ob := [cpD g S.1.length S.2.1.length 4, .row 1 (S.1.map wrow), .dead, .map (embW S.2.2), .row 1 (S.2.1.map wrow)]

/-- What is left, when an object went over: a cell that had something is an int. -/
def leftK (l : List Int) (o : Obj) : List Int := if o.kind == 5 && (o.parts.length : Int) == 1 then over l o.at_.toNat (([1, 0] : List Int).take (l.length - o.at_.toNat)) else l

theorem map_over {α β : Type} (f : α → β) (xs ys : List α) (k : Nat) : (over xs k ys).map f = over (xs.map f) k (ys.map f) := by
  simp only [over, List.map_append, List.map_take, List.map_drop, List.length_map]

theorem putBig : ACallP Try.prog 17 [.nil, .agg [iD 0, iD 1, iD 0, .p (.lit (.string ByteArray.empty)), .nil]] (.tup [words [1, 0], iD 0, iD 0]) := by
  have h := put [] ⟨0, 1, 0, ByteArray.empty, []⟩ (by simp)
  rw [show putS [] ⟨0, 1, 0, ByteArray.empty, []⟩ = ([1, 0], 0, 0) by kernel_rfl] at h
  exact ACallP.soft h rfl


theorem putBad (g : List Int) (S : CT) (o : Obj) (e : Int) (he : (e != 0) = true) (hpu0 : ACallP Try.prog 17 [words S.2.1, objD o] (.tup [words [], iD 0, iD e])) :
    ACalls Try.prog 83 [.ptr 0 0 0, objD o] (cpA g S) (fun r obs' => r = .tup [wD 0, iD e] ∧ obs' = cpB g S) := by
  have htS : List.take S.2.1.length (S.2.1.map wrow) = S.2.1.map wrow := List.take_of_length_le (by simp)
  unfold words at hpu0
  rw [← htS] at hpu0
  have hpu : ACallP Try.prog 17 [.p (.sl (List.take S.2.1.length (S.2.1.map wrow))), objD o] (.tup [.p (.sl []), iD 0, iD e]) := hpu0
  refine acallm_fn [4, 5] Try.func83 rfl rfl Try.ntmps83 (by simp) (by simp) fun R hR => ?_
  (refine awp_reg_seq [0, 3] fun K hK => ?_; (repeat' ((refine al_r rfl fun K' hK' => ?_); (repeat (simp only [go_sem, simprocAttr, he])); ((refine hK' _ _ ?_) <;> clear hK' K'))); all_goals (refine al_nil ?_; (simp only [go_sem, simprocAttr, he]); refine hK _ ?_; clear hK K))
  (refine awp_frz [0, 3] [0, 1, 2, 3] (by decide) (by (exact kept0123)) ?_; simp only [go_sem, simprocAttr, he])
  (refine awp_mv [0, 3] [0, 1, 9, 3, 2] (by decide) (kept4 rfl (by simp)) ?_; simp only [go_sem, simprocAttr, he])
  refine awp_draw_seq (by kernel_rfl) [0, 3, 6, 7, 8] fun K hK => ?_
  ((refine ah_r 0 rfl (by kernel_rfl) rfl fun K' hK' => ?_); (simp only [go_sem, simprocAttr, he]); ((refine hK' _ ?_); clear hK' K'))
  ((refine ah_r 4 rfl (by kernel_rfl) rfl fun K' hK' => ?_); (simp only [go_sem, simprocAttr, he]); ((refine hK' _ ?_); clear hK' K'))
  (refine ah_one 1 rfl (by kernel_rfl) ?_; (repeat' ((refine al_r rfl fun K' hK' => ?_); (repeat (simp only [go_sem, simprocAttr, he])); ((refine hK' _ _ ?_) <;> clear hK' K'))); all_goals refine al_nil ?_)
  ((refine ah_r 2 rfl (by kernel_rfl) rfl fun K' hK' => ?_); (simp only [go_sem, simprocAttr, he]); ((refine hK' _ ?_); clear hK' K'))
  (refine ah_one 3 rfl (by kernel_rfl) ?_; (repeat' ((refine al_r rfl fun K' hK' => ?_); (repeat (simp only [go_sem, simprocAttr, he])); ((refine hK' _ _ ?_) <;> clear hK' K'))); all_goals refine al_nil ?_)
  (refine ah_one 5 rfl (by kernel_rfl) ?_; (repeat' ((refine al_r rfl fun K' hK' => ?_); (repeat (simp only [go_sem, simprocAttr, he])); ((show AC _ _ (D.fn 17 _) _ _); refine acall_g (f := 17) (e := rfl) (hr := rfl) (hf := by simp [D.all, D.allL, flatL, flatPV]) (k := hK' _ _ ?_) (hc := Try.call17) (h := hpu); clear hK' K'))); all_goals refine al_nil ?_)
  ((refine ah_r 6 rfl (by kernel_rfl) rfl fun K' hK' => ?_); (simp only [go_sem, simprocAttr, he]); ((refine hK' _ ?_); clear hK' K'))
  ((refine ah_r 7 rfl (by kernel_rfl) rfl fun K' hK' => ?_); (simp only [go_sem, simprocAttr, he]); ((refine hK' _ ?_); clear hK' K'))
  ((refine ah_r 8 rfl (by kernel_rfl) rfl fun K' hK' => ?_); (simp only [go_sem, simprocAttr, he]); ((refine hK' _ ?_); clear hK' K'))
  ((refine ah_r 9 rfl (by kernel_rfl) rfl fun K' hK' => ?_); (simp only [go_sem, simprocAttr, he]); ((refine hK' _ ?_); clear hK' K'))
  ((refine ah_r 10 rfl (by kernel_rfl) rfl fun K' hK' => ?_); (simp only [go_sem, simprocAttr, he]); ((refine hK' _ ?_); clear hK' K'))
  ((refine ah_r 11 rfl (by kernel_rfl) rfl fun K' hK' => ?_); (simp only [go_sem, simprocAttr, he]); ((refine hK' _ ?_); clear hK' K'))
  ((refine ah_r 12 rfl (by kernel_rfl) rfl fun K' hK' => ?_); (simp only [go_sem, simprocAttr, he]); ((refine hK' _ ?_); clear hK' K'))
  (refine ah_done (by kernel_rfl) ?_; (simp only [go_sem, simprocAttr, he]); refine hK _ ?_; clear hK K)
  refine awp_seq_k fun K hK => ?_
  (refine awp_reg_seq [0, 3, 6, 7, 8, 24] fun K hK => ?_; (repeat' ((refine al_r rfl fun K' hK' => ?_); (repeat (simp only [go_sem, simprocAttr, he])); ((refine hK' _ _ ?_) <;> clear hK' K'))); all_goals (refine al_nil ?_; (simp only [go_sem, simprocAttr, he]); refine hK _ ?_; clear hK K))
  refine awp_if (_) rfl (fun hc => ?_) (fun hc => ?_)
  · (refine awp_reg_seq [4, 5] fun K hK => ?_; (repeat' ((refine al_r rfl fun K' hK' => ?_); (repeat (simp only [go_sem, simprocAttr, he])); ((refine hK' _ _ ?_) <;> clear hK' K'))); all_goals (refine al_nil ?_; (simp only [go_sem, simprocAttr, he]); refine hK _ ?_; clear hK K))
    refine awp_ret (hR _ _ [0, 1, 2, 3, 4] (.inl rfl) rfl (by decide) (by simp only [List.length_cons, List.length_nil]; decide) ?_)
    refine ⟨?_, ?_⟩ <;> simp only [go_sem, simprocAttr, he, cpB, cpD]
  · cases hc


set_option maxRecDepth 100000 in
theorem putOk (g : List Int) (S : CT) (o : Obj) (n : Nat) (x e2 : Int) (hoa : o.at_ = n) (hnl : n ≤ S.1.length) (hS : S.1.length ≤ 4000) (hlen : S.2.1.length ≤ maxLen) (hg : (putS S.2.1 o).2.2 = 0) (hwo : ACallP Try.prog 57 [iD 4, iD S.2.1.length] (.tup [wD x, iD e2])) :
    ACalls Try.prog 83 [.ptr 0 0 0, objD o] (cpA g S) (fun r obs' => r = .tup [wD x, iD e2] ∧ obs' = cpB g (leftK S.1 o, (putS S.2.1 o).1, ups S.2.2 o.at_ x)) := by
  have htS : List.take S.2.1.length (S.2.1.map wrow) = S.2.1.map wrow := List.take_of_length_le (by simp)
  have hpu := putO S.2.1 o hlen hg
  unfold words at hpu
  rw [← htS] at hpu
  generalize putS S.2.1 o = X at hpu
  have hpuF := flat_w X.1
  have hkeys := embW_keys S.2.2
  have hms := mset_embW S.2.2 o.at_ x
  have hn0 : (0 : Int) ≤ (n : Int) := Int.natCast_nonneg n
  have hnl2 : (n : Int) ≤ (S.1.length : Int) := by omega
  have hsz : ∀ h, (Try.prog.types[34]'h).size = 1 := fun h => by kernel_rfl
  have hsz1 := hsz (of_decide_eq_true (by kernel_rfl))
  obtain ⟨Y, hY⟩ : ∃ Y, Y = leftK S.1 o := ⟨_, rfl⟩
  rw [← hY]
  unfold leftK at hY
  rw [hoa, Int.toNat_natCast] at hY
  obtain ⟨E, hE⟩ : ∃ E, (o.kind == 5) = E := ⟨_, rfl⟩
  obtain ⟨G, hG⟩ : ∃ G, ((o.parts.length : Int) == 1) = G := ⟨_, rfl⟩
  rw [hE, hG] at hY
  have hYl : Y.length = S.1.length := by
    rw [hY]
    split
    · exact over_length (by rw [List.length_take]; simp; omega)
    · rfl
  refine acallm_fn [4, 5] Try.func83 rfl rfl Try.ntmps83 (by simp) (by simp) fun R hR => ?_
  (refine awp_reg_seq [0, 3] fun K hK => ?_; (repeat' ((refine al_r rfl fun K' hK' => ?_); (repeat (simp only [go_sem, simprocAttr, bne_self_eq_false])); ((refine hK' _ _ ?_) <;> clear hK' K'))); all_goals (refine al_nil ?_; (simp only [go_sem, simprocAttr, bne_self_eq_false]); refine hK _ ?_; clear hK K))
  (refine awp_frz [0, 3] [0, 1, 2, 3] (by decide) (by (exact kept0123)) ?_; simp only [go_sem, simprocAttr, bne_self_eq_false])
  (refine awp_mv [0, 3] [0, 1, 9, 3, 2] (by decide) (kept4 rfl (by simp)) ?_; simp only [go_sem, simprocAttr, bne_self_eq_false])

  refine awp_draw_seq (by kernel_rfl) [0, 3, 6, 7, 8] fun K hK => ?_
  ((refine ah_r 0 rfl (by kernel_rfl) rfl fun K' hK' => ?_); (simp only [go_sem, simprocAttr, List.length_map, bne_self_eq_false]); ((refine hK' _ ?_); clear hK' K'))
  ((refine ah_r 4 rfl (by kernel_rfl) rfl fun K' hK' => ?_); (simp only [go_sem, simprocAttr, List.length_map, bne_self_eq_false]); ((refine hK' _ ?_); clear hK' K'))
  (refine ah_one 1 rfl (by kernel_rfl) ?_; (repeat' ((refine al_r rfl fun K' hK' => ?_); (repeat (simp only [go_sem, simprocAttr, List.length_map, bne_self_eq_false])); ((refine hK' _ _ ?_) <;> clear hK' K'))); all_goals refine al_nil ?_)
  ((refine ah_r 2 rfl (by kernel_rfl) rfl fun K' hK' => ?_); (simp only [go_sem, simprocAttr, List.length_map, bne_self_eq_false]); ((refine hK' _ ?_); clear hK' K'))
  (refine ah_one 3 rfl (by kernel_rfl) ?_; (repeat' ((refine al_r rfl fun K' hK' => ?_); (repeat (simp only [go_sem, simprocAttr, List.length_map, bne_self_eq_false])); ((refine hK' _ _ ?_) <;> clear hK' K'))); all_goals refine al_nil ?_)
  (refine ah_one 5 rfl (by kernel_rfl) ?_; (repeat' ((refine al_r rfl fun K' hK' => ?_); (repeat (simp only [go_sem, simprocAttr, List.length_map, bne_self_eq_false])); ((show AC _ _ (D.fn 17 _) _ _); refine acall_gn (f := 17) Try.call17 hpu rfl (by simp [D.all, D.allL, flatL, flatPV]) (hfo := hpuF) ?_; (simp only [go_sem, simprocAttr, List.length_map, bne_self_eq_false]); refine hK' _ _ ?_; clear hK' K'))); all_goals refine al_nil ?_)
  ((refine ah_r 6 rfl (by kernel_rfl) rfl fun K' hK' => ?_); (simp only [go_sem, simprocAttr, List.length_map, bne_self_eq_false]); ((refine hK' _ ?_); clear hK' K'))
  ((refine ah_r 7 rfl (by kernel_rfl) rfl fun K' hK' => ?_); (simp only [go_sem, simprocAttr, List.length_map, bne_self_eq_false]); ((refine hK' _ ?_); clear hK' K'))
  ((refine ah_r 8 rfl (by kernel_rfl) rfl fun K' hK' => ?_); (simp only [go_sem, simprocAttr, List.length_map, bne_self_eq_false]); ((refine hK' _ ?_); clear hK' K'))
  ((refine ah_r 9 rfl (by kernel_rfl) rfl fun K' hK' => ?_); (simp only [go_sem, simprocAttr, List.length_map, bne_self_eq_false]); ((refine hK' _ ?_); clear hK' K'))
  ((refine ah_r 10 rfl (by kernel_rfl) rfl fun K' hK' => ?_); (simp only [go_sem, simprocAttr, List.length_map, bne_self_eq_false]); ((refine hK' _ ?_); clear hK' K'))
  ((refine ah_r 11 rfl (by kernel_rfl) rfl fun K' hK' => ?_); (simp only [go_sem, simprocAttr, List.length_map, bne_self_eq_false]); ((refine hK' _ ?_); clear hK' K'))
  ((refine ah_r 12 rfl (by kernel_rfl) rfl fun K' hK' => ?_); (simp only [go_sem, simprocAttr, List.length_map, bne_self_eq_false]); ((refine hK' _ ?_); clear hK' K'))
  (refine ah_done (by kernel_rfl) ?_; (simp only [go_sem, simprocAttr, List.length_map, bne_self_eq_false]); refine hK _ ?_; clear hK K)
  refine awp_seq_k fun K hK => ?_
  (refine awp_reg_seq [0, 3, 6, 7, 8, 24] fun K hK => ?_; (repeat' ((refine al_r rfl fun K' hK' => ?_); (repeat (simp only [go_sem, simprocAttr, List.length_map, bne_self_eq_false])); ((refine hK' _ _ ?_) <;> clear hK' K'))); all_goals (refine al_nil ?_; (simp only [go_sem, simprocAttr, List.length_map, bne_self_eq_false]); refine hK _ ?_; clear hK K))
  refine awp_if (_) rfl (fun hc => ?_) (fun hc => ?_)
  · cases hc
  · refine awp_skip ?_
    refine hK _ ?_; clear hK K
    (refine awp_reg_seq [0, 3, 7] fun K hK => ?_; (repeat' ((first | refine al_r rfl fun K' hK' => ?_ | refine al_d rfl fun K' hK' => ?_); (repeat (first | (simp only [go_sem, simprocAttr, List.length_map, bne_self_eq_false]) | refine AS.mk ?_)); ((first | refine hK' _ _ ?_ | refine ⟨?_, hK' _ _ ?_⟩) <;> clear hK' K' <;> (first | (show alist _ _ _ _ _ _; skip) | (simp; done))))); all_goals (refine al_nil ?_; (simp only [go_sem, simprocAttr, List.length_map, bne_self_eq_false]); refine hK _ ?_; clear hK K))
    refine awp_seq_kc fun K hK hcut => ?_
    have key : K ⟨ofL [(0, .ptr 0 0 0), (3, .rd [.lit (.int .i64 o.at_), .lit (.int .i64 o.kind), .lit (.int .i64 o.num), .lit (.string o.text), .sl (o.parts.map wrow)] 0), (7, iD S.2.1.length)], [cpD g S.1.length X.1.length 4, .row 1 (Y.map wrow), .dead, .map (embW S.2.2), .row 1 (X.1.map wrow)], 4⟩ := by
      clear hcut

      refine hK _ ?_; clear hK K
      (refine awp_reg_seq [0, 3, 8, 12] fun K hK => ?_; (repeat' ((refine al_r rfl fun K' hK' => ?_); (repeat (simp only [go_sem, simprocAttr, List.length_map, hkeys, hms])); (first | ((refine hK' _ _ ?_) <;> clear hK' K') | ((show AC _ _ (D.fn 57 _) _ _); refine acall_p (f := 57) (e := rfl) (hr := rfl) (k := hK' _ _ ?_) (hc := Try.call57) (h := hwo); clear hK' K')))); all_goals (refine al_nil ?_; (simp only [go_sem, simprocAttr, List.length_map, hkeys, hms]); refine hK _ ?_; clear hK K))
      refine awp_draw_seq (by kernel_rfl) [8, 12] fun K hK => ?_
      ((refine ah_r 0 rfl (by kernel_rfl) rfl fun K' hK' => ?_); (simp only [go_sem, simprocAttr, List.length_map, hkeys, hms]); ((refine hK' _ ?_); clear hK' K'))
      ((refine ah_r 4 rfl (by kernel_rfl) rfl fun K' hK' => ?_); (simp only [go_sem, simprocAttr, List.length_map, hkeys, hms]); ((refine hK' _ ?_); clear hK' K'))
      ((refine ah_r 5 rfl (by kernel_rfl) rfl fun K' hK' => ?_); (simp only [go_sem, simprocAttr, List.length_map, hkeys, hms]); ((refine hK' _ ?_); clear hK' K'))
      ((refine ah_r 6 rfl (by kernel_rfl) rfl fun K' hK' => ?_); (simp only [go_sem, simprocAttr, List.length_map, hkeys, hms]); ((refine hK' _ ?_); clear hK' K'))
      (refine ah_one 1 rfl (by kernel_rfl) ?_; (repeat' ((refine al_r rfl fun K' hK' => ?_); (repeat (simp only [go_sem, simprocAttr, List.length_map, hkeys, hms])); ((refine hK' _ _ ?_) <;> clear hK' K'))); all_goals refine al_nil ?_)
      ((refine ah_r 2 rfl (by kernel_rfl) rfl fun K' hK' => ?_); (simp only [go_sem, simprocAttr, List.length_map, hkeys, hms]); ((refine hK' _ ?_); clear hK' K'))
      (refine ah_one 3 rfl (by kernel_rfl) ?_; (repeat' ((refine al_r rfl fun K' hK' => ?_); (repeat (simp only [go_sem, simprocAttr, List.length_map, hkeys, hms])); ((refine hK' _ _ ?_) <;> clear hK' K'))); all_goals refine al_nil ?_)
      (refine ah_one 7 rfl (by kernel_rfl) ?_; (repeat' ((refine al_d rfl fun K' hK' => ?_); (repeat (simp only [go_sem, simprocAttr, List.length_map, hkeys, hms])); ((refine hK' _ _ ?_) <;> clear hK' K'))); all_goals refine al_nil ?_)
      (refine ah_done (by kernel_rfl) ?_; (simp only [go_sem, simprocAttr, List.length_map, hkeys, hms]); refine hK _ ?_; clear hK K)
      (refine awp_reg_seq [4, 5] fun K hK => ?_; (repeat' ((refine al_r rfl fun K' hK' => ?_); (repeat (simp only [go_sem, simprocAttr, List.length_map, hkeys, hms])); ((refine hK' _ _ ?_) <;> clear hK' K'))); all_goals (refine al_nil ?_; (simp only [go_sem, simprocAttr, List.length_map, hkeys, hms]); refine hK _ ?_; clear hK K))
      refine awp_ret (hR _ _ [0, 1, 2, 3, 4] (.inl rfl) rfl (by decide) (by simp only [List.length_cons, List.length_nil]; decide) ?_)
      refine ⟨?_, ?_⟩ <;> simp only [go_sem, simprocAttr, List.length_map, hkeys, hms, cpB, cpD, hYl]


    refine awp_reg_tov [0, 3, 7, 38] [(38, bD (E && G))] (h := ?_) (k := ?_)
    · cases E <;> cases G
      all_goals ((repeat' (first | ((first | refine al_r rfl fun K' hK' => ?_ | refine al_t rfl rfl fun K' hK' => ?_); (repeat (simp only [go_sem, simprocAttr, List.length_map, hE, hG])); ((first | refine hK' _ _ ?_ | refine ⟨?_, hK' _ _ ?_⟩) <;> clear hK' K' <;> (first | (show alist _ _ _ _ _ _; skip) | (intro s hs; cases hs; done)))) | refine al_e rfl rfl ?_)); all_goals (refine al_nil ?_; (simp only [go_sem, simprocAttr, List.length_map, hE, hG, *, Bool.and_true, Bool.and_false, Bool.true_and, Bool.false_and, Bool.or_true, Bool.true_or, Bool.or_false, Bool.false_or, Bool.not_true, Bool.not_false, Bool.false_eq_true]; done)))
    (intro K hK; (simp only [go_sem, simprocAttr, List.length_map, hE, hG]); refine hK _ ?_; clear hK K)
    refine awp_if (E && G) rfl (fun hc => ?_) (fun hc => ?_)
    · rw [if_pos hc] at hY
      have hov : over (S.1.map wrow) n (List.take (S.1.length - n) [wrow 1, wrow 0]) = Y.map wrow := by rw [hY, map_over, List.map_take]; rfl

      (refine awp_reg_seq [0, 3, 7, 9] fun K hK => ?_; (repeat' ((refine al_r rfl fun K' hK' => ?_); (repeat (simp only [go_sem, simprocAttr, List.length_map, hoa, hn0, hnl2, hov, Int.toNat_natCast])); (first | ((refine hK' _ _ ?_) <;> clear hK' K') | ((show AC _ _ (D.fn 17 _) _ _); refine acall_p (f := 17) (e := rfl) (hr := rfl) (k := hK' _ _ ?_) (hc := Try.call17) (h := putBig); clear hK' K')))); all_goals (refine al_nil ?_; (simp only [go_sem, simprocAttr, List.length_map, hoa, hn0, hnl2, hov, Int.toNat_natCast]); refine hK _ ?_; clear hK K))
      refine awp_draw (by kernel_rfl) [0, 3, 7] fun K hK => ?_
      ((refine ah_r 0 rfl (by kernel_rfl) rfl fun K' hK' => ?_); (simp only [go_sem, simprocAttr, List.length_map, hoa, hn0, hnl2, hov, Int.toNat_natCast]); ((refine hK' _ ?_); clear hK' K'))
      ((refine ah_r 4 rfl (by kernel_rfl) rfl fun K' hK' => ?_); (simp only [go_sem, simprocAttr, List.length_map, hoa, hn0, hnl2, hov, Int.toNat_natCast]); ((refine hK' _ ?_); clear hK' K'))
      ((refine ah_r 5 rfl (by kernel_rfl) rfl fun K' hK' => ?_); (simp only [go_sem, simprocAttr, List.length_map, hoa, hn0, hnl2, hov, Int.toNat_natCast]); ((refine hK' _ ?_); clear hK' K'))
      ((refine ah_r 7 rfl (by kernel_rfl) rfl fun K' hK' => ?_); (simp only [go_sem, simprocAttr, List.length_map, hoa, hn0, hnl2, hov, Int.toNat_natCast]); ((refine hK' _ ?_); clear hK' K'))
      (refine ah_one 1 rfl (by kernel_rfl) ?_; (repeat' ((refine al_r rfl fun K' hK' => ?_); (repeat (simp only [go_sem, simprocAttr, List.length_map, hoa, hn0, hnl2, hov, Int.toNat_natCast])); ((refine hK' _ _ ?_) <;> clear hK' K'))); all_goals refine al_nil ?_)
      ((refine ah_r 2 rfl (by kernel_rfl) rfl fun K' hK' => ?_); (simp only [go_sem, simprocAttr, List.length_map, hoa, hn0, hnl2, hov, Int.toNat_natCast]); ((refine hK' _ ?_); clear hK' K'))
      (refine ah_one 3 rfl (by kernel_rfl) ?_; (repeat' ((refine al_r rfl fun K' hK' => ?_); (repeat (simp only [go_sem, simprocAttr, List.length_map, hoa, hn0, hnl2, hov, Int.toNat_natCast])); ((refine hK' _ _ ?_) <;> clear hK' K'))); all_goals refine al_nil ?_)
      (refine ah_one 6 rfl (by kernel_rfl) ?_; (repeat' ((refine al_r rfl fun K' hK' => ?_); (repeat (simp only [go_sem, simprocAttr, List.length_map, hoa, hn0, hnl2, hov, Int.toNat_natCast])); ((refine ⟨?_, ?_, hK' _ _ ?_⟩) <;> clear hK' K' <;> (first | (show alist _ _ _ _ _ _; skip) | (simp; done))))); all_goals refine al_nil ?_)
      (refine ah_one 8 rfl (by kernel_rfl) ?_; (repeat' ((refine al_r rfl fun K' hK' => ?_); (repeat (simp only [go_sem, simprocAttr, List.length_map, hoa, hn0, hnl2, hov, Int.toNat_natCast])); ((refine ⟨?_, ?_, ?_, hK' _ _ ?_⟩) <;> clear hK' K' <;> (first | (show alist _ _ _ _ _ _; skip) | assumption | (simp; done) | (simp; omega))))); all_goals refine al_nil ?_)
      (refine ah_done (by kernel_rfl) ?_; (simp only [go_sem, simprocAttr, List.length_map, hoa, hn0, hnl2, hov, Int.toNat_natCast]); refine hK _ ?_; clear hK K)
      (refine hcut _ [0, 3, 7] [0, 1, 2, 3, 5] (by decide) kept0123 ?_; simp only [go_sem, simprocAttr, List.length_map, hoa, hn0, hnl2, hov, Int.toNat_natCast]; (rw [hoa] at key; exact key))
    · rw [if_neg (by rw [hc]; exact Bool.false_ne_true)] at hY

      refine awp_skip ?_
      (refine hcut _ [0, 3, 7] [0, 1, 2, 3, 5] (by decide) kept0123 ?_; simp only [go_sem, simprocAttr, List.length_map]; (rw [hY] at key; exact key))
end Go.Proofs.Ytagphggcdmjlpaa.P

/- Carry's word: told by recursion on how deep it may go. -/
namespace Go.Proofs.Ytagphggcdmjlpaa.P
open Go.Ab Go.Proofs.Ytagphggcdmjlpaa.T

/-- What put answers. -/
def putK (S : CT) (o : Obj) : (Int × Int) × CT :=
  if (putS S.2.1 o).2.2 != 0 then ((0, (putS S.2.1 o).2.2), S) else (wordS 4 S.2.1.length, leftK S.1 o, (putS S.2.1 o).1, ups S.2.2 o.at_ (wordS 4 S.2.1.length).1)

/-- Parts are carried over one behind the other. -/
def partsK (F : CT → Int → (Int × Int) × CT) : CT → List Int → List Int → (List Int × Int) × CT
  | S, [], acc => ((acc, 0), S)
  | S, p :: l, acc => if (F S p).1.2 != 0 then (([], (F S p).1.2), (F S p).2) else partsK F (F S p).2 l (acc ++ [(F S p).1.1])

/-- The answer where parts go over first. -/
def objK (R : (List Int × Int) × CT) (P : (Int × Int) × CT) : (Int × Int) × CT := if R.1.2 != 0 then ((0, R.1.2), R.2) else P

/-- What word answers, of what was read, and of what is known of the place. -/
def stepK (w : Int) (S : CT) (r : Int × Int × Int) (l : Option Int) (deep : (Int × Int) × CT) : (Int × Int) × CT :=
  if r.2.2 != 0 || r.1 != 4 then ((w, r.2.2), S) else match l with
  | some x => ((x, 0), S)
  | none => deep
theorem stepK_triv {w : Int} {S : CT} {r : Int × Int × Int} {l : Option Int} {d : (Int × Int) × CT} (h : (r.2.2 != 0 || r.1 != 4) = true) : stepK w S r l d = ((w, r.2.2), S) := by unfold stepK; rw [if_pos h]
theorem stepK_done {w x : Int} {S : CT} {r : Int × Int × Int} {l : Option Int} {d : (Int × Int) × CT} (h : ¬ (r.2.2 != 0 || r.1 != 4) = true) (hl : l = some x) : stepK w S r l d = ((x, 0), S) := by subst hl; unfold stepK; rw [if_neg h]
theorem stepK_none {w : Int} {S : CT} {r : Int × Int × Int} {l : Option Int} {d : (Int × Int) × CT} (h : ¬ (r.2.2 != 0 || r.1 != 4) = true) (hl : l = none) : stepK w S r l d = d := by subst hl; unfold stepK; rw [if_neg h]

/-- What word does with an object. -/
def goK (F : CT → Int → (Int × Int) × CT) (S : CT) (A : Obj × Int) : (Int × Int) × CT :=
  if A.2 != 0 then ((0, A.2), S) else objK (partsK F S A.1.parts []) (putK (partsK F S A.1.parts []).2 { A.1 with parts := (partsK F S A.1.parts []).1.1 })
theorem goK_none {F : CT → Int → (Int × Int) × CT} {S : CT} {A : Obj × Int} (h : (A.2 != 0) = true) : goK F S A = ((0, A.2), S) := by unfold goK; rw [if_pos h]
theorem goK_obj {F : CT → Int → (Int × Int) × CT} {S : CT} {o : Obj} : goK F S (o, 0) = objK (partsK F S o.parts []) (putK (partsK F S o.parts []).2 { o with parts := (partsK F S o.parts []).1.1 }) := by unfold goK; rw [if_neg (by simp)]

/-- What word answers. -/
def wordK (g : List Int) : Nat → CT → Int → (Int × Int) × CT
  | 0, S, w => stepK w S (readS w) (lk S.2.2 (readS w).2.1) ((0, 2), S)
  | n + 1, S, w => stepK w S (readS w) (lk S.2.2 (readS w).2.1) (goK (wordK g n) S (atS g (readS w).2.1))

theorem finK {f : FuncId} {args : List D} {obs : List Ob} {g : List Int} {x e : Int} {T : CT} (W : (Int × Int) × CT) (h0 : W = ((x, e), T)) (h : ACalls Try.prog f args obs (fun r obs' => r = .tup [wD x, iD e] ∧ obs' = cpB g T)) :
    ACalls Try.prog f args obs (fun r obs' => r = .tup [wD W.1.1, iD W.1.2] ∧ obs' = cpB g W.2) := by
  subst h0; exact h

theorem putC (g : List Int) (S : CT) (o : Obj) (n : Nat) (hoa : o.at_ = n) (hnl : n ≤ S.1.length) (hS : S.1.length ≤ 4000) (hlen : S.2.1.length ≤ maxLen) :
    ACalls Try.prog 83 [.ptr 0 0 0, objD o] (cpA g S) (fun r obs' => r = .tup [wD (putK S o).1.1, iD (putK S o).1.2] ∧ obs' = cpB g (putK S o).2) := by
  by_cases hg : (putS S.2.1 o).2.2 = 0
  · have hw := word 4 S.2.1.length
    have e : putK S o = (wordS 4 S.2.1.length, leftK S.1 o, (putS S.2.1 o).1, ups S.2.2 o.at_ (wordS 4 S.2.1.length).1) := by
      unfold putK; rw [if_neg (by simp [hg])]
    generalize wordS 4 (S.2.1.length : Int) = W at hw e
    obtain ⟨x, e2⟩ := W
    exact finK _ e (putOk g S o n x e2 hoa hnl hS hlen hg hw)
  · have hp := put S.2.1 o hlen
    have hnil : (putS S.2.1 o).1 = [] ∧ (putS S.2.1 o).2.1 = 0 := by
      unfold putS at hg ⊢
      split
      · exact ⟨rfl, rfl⟩
      · split
        · exact ⟨rfl, rfl⟩
        · rename_i h1 h2
          rw [if_neg h1, if_neg h2] at hg
          exact absurd rfl hg
    rw [hnil.1, hnil.2] at hp
    have e : putK S o = ((0, (putS S.2.1 o).2.2), S) := by unfold putK; rw [if_pos (by simpa using hg)]
    exact finK _ e (putBad g S o _ (by simpa using hg) hp)


theorem carryTriv (g : List Int) (S : CT) (w n t a e : Int) (hrd : ACallP Try.prog 62 [wD w] (.tup [iD t, iD a, iD e])) (hc0 : (e != 0 || t != 4) = true) :
    ACalls Try.prog 59 [.ptr 0 0 0, wD w, iD n] (cpA g S) (fun r obs' => r = .tup [wD w, iD e] ∧ obs' = cpB g S) := by
  obtain ⟨E, hE⟩ : ∃ E, (e != 0) = E := ⟨_, rfl⟩
  obtain ⟨G, hG⟩ : ∃ G, (t != 4) = G := ⟨_, rfl⟩
  rw [hE, hG] at hc0
  refine acallm_fn [6, 7] Try.func59 rfl rfl Try.ntmps59 (by simp) (by simp) fun R hR => ?_
  (refine awp_reg_seq [0, 1, 2] fun K hK => ?_; (repeat' ((refine al_r rfl fun K' hK' => ?_); (repeat (simp only [go_sem, simprocAttr])); ((refine hK' _ _ ?_) <;> clear hK' K'))); all_goals (refine al_nil ?_; (simp only [go_sem, simprocAttr]); refine hK _ ?_; clear hK K))
  (refine awp_mv [0, 1, 2] [0, 1, 9, 3, 2] (by decide) (kept4 rfl (by simp)) ?_; simp only [go_sem, simprocAttr])
  (refine awp_reg_seq [0, 1, 2, 8, 9, 10] fun K hK => ?_; (repeat' ((refine al_r rfl fun K' hK' => ?_); (repeat (simp only [go_sem, simprocAttr])); (first | ((refine hK' _ _ ?_) <;> clear hK' K') | ((show AC _ _ (D.fn 62 _) _ _); refine acall_p (f := 62) (e := rfl) (hr := rfl) (k := hK' _ _ ?_) (hc := Try.call62) (h := hrd); clear hK' K')))); all_goals (refine al_nil ?_; (simp only [go_sem, simprocAttr]); refine hK _ ?_; clear hK K))
  refine awp_seq_k fun K hK => ?_

  refine awp_reg_tov [0, 1, 2, 9, 10, 27] [(27, bD true)] (h := ?_) (k := ?_)
  · cases E <;> cases G <;> first | (cases hc0; done) | skip
    all_goals ((repeat' (first | ((first | refine al_r rfl fun K' hK' => ?_ | refine al_t rfl rfl fun K' hK' => ?_); (repeat (simp only [go_sem, simprocAttr, hE, hG])); ((refine hK' _ _ ?_) <;> clear hK' K')) | refine al_e rfl rfl ?_)); all_goals (refine al_nil ?_; (simp only [go_sem, simprocAttr, hE, hG, *, Bool.and_true, Bool.and_false, Bool.true_and, Bool.false_and, Bool.or_true, Bool.true_or, Bool.or_false, Bool.false_or, Bool.not_true, Bool.not_false, Bool.false_eq_true]; done)))
  (intro K hK; (simp only [go_sem, simprocAttr, hE, hG]); refine hK _ ?_; clear hK K)
  refine awp_if (_) rfl (fun hc => ?_) (fun hc => ?_)
  · (refine awp_reg_seq [6, 7] fun K hK => ?_; (repeat' ((refine al_r rfl fun K' hK' => ?_); (repeat (simp only [go_sem, simprocAttr, hE, hG])); ((refine hK' _ _ ?_) <;> clear hK' K'))); all_goals (refine al_nil ?_; (simp only [go_sem, simprocAttr, hE, hG]); refine hK _ ?_; clear hK K))
    refine awp_ret (hR _ _ [0, 1, 2, 3, 4] (.inl rfl) rfl (by decide) (by simp only [List.length_cons, List.length_nil]; decide) ?_)
    refine ⟨?_, ?_⟩ <;> simp only [go_sem, simprocAttr, hE, hG, cpB, cpD]
  · cases hc


theorem carryDone (g : List Int) (S : CT) (w n a x : Int) (hrd : ACallP Try.prog 62 [wD w] (.tup [iD 4, iD a, iD 0])) (hlk : lk S.2.2 a = some x) :
    ACalls Try.prog 59 [.ptr 0 0 0, wD w, iD n] (cpA g S) (fun r obs' => r = .tup [wD x, iD 0] ∧ obs' = cpB g S) := by
  have hmg := mget_embW S.2.2 a
  rw [hlk] at hmg
  have hkeys := embW_keys S.2.2
  refine acallm_fn [6, 7] Try.func59 rfl rfl Try.ntmps59 (by simp) (by simp) fun R hR => ?_
  (refine awp_reg_seq [0, 1, 2] fun K hK => ?_; (repeat' ((refine al_r rfl fun K' hK' => ?_); (repeat (simp only [go_sem, simprocAttr, bne_self_eq_false])); ((refine hK' _ _ ?_) <;> clear hK' K'))); all_goals (refine al_nil ?_; (simp only [go_sem, simprocAttr, bne_self_eq_false]); refine hK _ ?_; clear hK K))
  (refine awp_mv [0, 1, 2] [0, 1, 9, 3, 2] (by decide) (kept4 rfl (by simp)) ?_; simp only [go_sem, simprocAttr, bne_self_eq_false])
  (refine awp_reg_seq [0, 1, 2, 8, 9, 10] fun K hK => ?_; (repeat' ((refine al_r rfl fun K' hK' => ?_); (repeat (simp only [go_sem, simprocAttr, bne_self_eq_false])); (first | ((refine hK' _ _ ?_) <;> clear hK' K') | ((show AC _ _ (D.fn 62 _) _ _); refine acall_p (f := 62) (e := rfl) (hr := rfl) (k := hK' _ _ ?_) (hc := Try.call62) (h := hrd); clear hK' K')))); all_goals (refine al_nil ?_; (simp only [go_sem, simprocAttr, bne_self_eq_false]); refine hK _ ?_; clear hK K))
  refine awp_seq_k fun K hK => ?_
  (refine awp_reg_seq [0, 1, 2, 9, 10, 27] fun K hK => ?_; (repeat' ((first | refine al_r rfl fun K' hK' => ?_ | refine al_t rfl rfl fun K' hK' => ?_); (repeat (simp only [go_sem, simprocAttr, bne_self_eq_false])); ((refine hK' _ _ ?_) <;> clear hK' K'))); all_goals (refine al_nil ?_; (simp only [go_sem, simprocAttr, bne_self_eq_false]); refine hK _ ?_; clear hK K))
  refine awp_if (_) rfl (fun hc => ?_) (fun hc => ?_)
  · cases hc
  · refine awp_skip ?_
    refine hK _ ?_; clear hK K
    refine awp_seq_k fun K hK => ?_

    (refine awp_reg_seq [0, 2, 9, 11, 12] fun K hK => ?_; (repeat' ((refine al_r rfl fun K' hK' => ?_); (repeat (simp only [go_sem, simprocAttr, hkeys, hmg, Option.map_some])); ((refine hK' _ _ ?_) <;> clear hK' K'))); all_goals (refine al_nil ?_; (simp only [go_sem, simprocAttr, hkeys, hmg, Option.map_some]); refine hK _ ?_; clear hK K))
    (refine awp_reg_seq [0, 2, 9, 11, 39] fun K hK => ?_; (repeat' ((refine al_r rfl fun K' hK' => ?_); (repeat (simp only [go_sem, simprocAttr, hkeys, hmg, Option.map_some])); ((refine hK' _ _ ?_) <;> clear hK' K'))); all_goals (refine al_nil ?_; (simp only [go_sem, simprocAttr, hkeys, hmg, Option.map_some]); refine hK _ ?_; clear hK K))
    refine awp_if (_) rfl (fun hc => ?_) (fun hc => ?_)
    · (refine awp_reg_seq [6, 7] fun K hK => ?_; (repeat' ((refine al_r rfl fun K' hK' => ?_); (repeat (simp only [go_sem, simprocAttr, hkeys, hmg, Option.map_some])); ((refine hK' _ _ ?_) <;> clear hK' K'))); all_goals (refine al_nil ?_; (simp only [go_sem, simprocAttr, hkeys, hmg, Option.map_some]); refine hK _ ?_; clear hK K))
      refine awp_ret (hR _ _ [0, 1, 2, 3, 4] (.inl rfl) rfl (by decide) (by simp only [List.length_cons, List.length_nil]; decide) ?_)
      refine ⟨?_, ?_⟩ <;> simp only [go_sem, simprocAttr, hkeys, hmg, Option.map_some, cpB, cpD]
    · cases hc


theorem carryDeep (g : List Int) (S : CT) (w a : Int) (hrd : ACallP Try.prog 62 [wD w] (.tup [iD 4, iD a, iD 0])) (hlk : lk S.2.2 a = none) :
    ACalls Try.prog 59 [.ptr 0 0 0, wD w, iD 0] (cpA g S) (fun r obs' => r = .tup [wD 0, iD 2] ∧ obs' = cpB g S) := by
  have hmg := mget_embW S.2.2 a
  rw [hlk] at hmg
  have hkeys := embW_keys S.2.2
  refine acallm_fn [6, 7] Try.func59 rfl rfl Try.ntmps59 (by simp) (by simp) fun R hR => ?_
  (refine awp_reg_seq [0, 1, 2] fun K hK => ?_; (repeat' ((refine al_r rfl fun K' hK' => ?_); (repeat (simp only [go_sem, simprocAttr, bne_self_eq_false])); ((refine hK' _ _ ?_) <;> clear hK' K'))); all_goals (refine al_nil ?_; (simp only [go_sem, simprocAttr, bne_self_eq_false]); refine hK _ ?_; clear hK K))
  (refine awp_mv [0, 1, 2] [0, 1, 9, 3, 2] (by decide) (kept4 rfl (by simp)) ?_; simp only [go_sem, simprocAttr, bne_self_eq_false])
  (refine awp_reg_seq [0, 1, 2, 8, 9, 10] fun K hK => ?_; (repeat' ((refine al_r rfl fun K' hK' => ?_); (repeat (simp only [go_sem, simprocAttr, bne_self_eq_false])); (first | ((refine hK' _ _ ?_) <;> clear hK' K') | ((show AC _ _ (D.fn 62 _) _ _); refine acall_p (f := 62) (e := rfl) (hr := rfl) (k := hK' _ _ ?_) (hc := Try.call62) (h := hrd); clear hK' K')))); all_goals (refine al_nil ?_; (simp only [go_sem, simprocAttr, bne_self_eq_false]); refine hK _ ?_; clear hK K))
  refine awp_seq_k fun K hK => ?_
  (refine awp_reg_seq [0, 1, 2, 9, 10, 27] fun K hK => ?_; (repeat' ((first | refine al_r rfl fun K' hK' => ?_ | refine al_t rfl rfl fun K' hK' => ?_); (repeat (simp only [go_sem, simprocAttr, bne_self_eq_false])); ((refine hK' _ _ ?_) <;> clear hK' K'))); all_goals (refine al_nil ?_; (simp only [go_sem, simprocAttr, bne_self_eq_false]); refine hK _ ?_; clear hK K))
  refine awp_if (_) rfl (fun hc => ?_) (fun hc => ?_)
  · cases hc
  · refine awp_skip ?_
    refine hK _ ?_; clear hK K
    refine awp_seq_k fun K hK => ?_

    (refine awp_reg_seq [0, 2, 9, 11, 12] fun K hK => ?_; (repeat' ((refine al_r rfl fun K' hK' => ?_); (repeat (simp only [go_sem, simprocAttr, hkeys, hmg, Option.map_none])); ((refine hK' _ _ ?_) <;> clear hK' K'))); all_goals (refine al_nil ?_; (simp only [go_sem, simprocAttr, hkeys, hmg, Option.map_none]); refine hK _ ?_; clear hK K))
    (refine awp_reg_seq [0, 2, 9, 11, 39] fun K hK => ?_; (repeat' ((refine al_r rfl fun K' hK' => ?_); (repeat (simp only [go_sem, simprocAttr, hkeys, hmg, Option.map_none])); ((refine hK' _ _ ?_) <;> clear hK' K'))); all_goals (refine al_nil ?_; (simp only [go_sem, simprocAttr, hkeys, hmg, Option.map_none]); refine hK _ ?_; clear hK K))
    refine awp_if (_) rfl (fun hc => ?_) (fun hc => ?_)
    · cases hc
    · refine awp_skip ?_
      refine hK _ ?_; clear hK K
      refine awp_seq_k fun K hK => ?_
      (refine awp_reg_seq [0, 2, 9, 42] fun K hK => ?_; (repeat' ((refine al_r rfl fun K' hK' => ?_); (repeat (simp only [go_sem, simprocAttr, hkeys, hmg, Option.map_none])); ((refine hK' _ _ ?_) <;> clear hK' K'))); all_goals (refine al_nil ?_; (simp only [go_sem, simprocAttr, hkeys, hmg, Option.map_none]); refine hK _ ?_; clear hK K))
      refine awp_if (_) rfl (fun hc => ?_) (fun hc => ?_)
      · (refine awp_reg_seq [6, 7] fun K hK => ?_; (repeat' ((refine al_r rfl fun K' hK' => ?_); (repeat (simp only [go_sem, simprocAttr, hkeys, hmg, Option.map_none])); ((refine hK' _ _ ?_) <;> clear hK' K'))); all_goals (refine al_nil ?_; (simp only [go_sem, simprocAttr, hkeys, hmg, Option.map_none]); refine hK _ ?_; clear hK K))
        refine awp_ret (hR _ _ [0, 1, 2, 3, 4] (.inl rfl) rfl (by decide) (by simp only [List.length_cons, List.length_nil]; decide) ?_)
        refine ⟨?_, ?_⟩ <;> simp only [go_sem, simprocAttr, hkeys, hmg, Option.map_none, cpB, cpD]
      · cases hc


theorem carryNone (g : List Int) (S : CT) (w a e n : Int) (o : Obj) (hn : 1 ≤ n) (he : (e != 0) = true) (hrd : ACallP Try.prog 62 [wD w] (.tup [iD 4, iD a, iD 0])) (hlk : lk S.2.2 a = none) (hat : ACallP Try.prog 19 [words g, iD a] (.tup [objD o, iD e])) :
    ACalls Try.prog 59 [.ptr 0 0 0, wD w, iD n] (cpA g S) (fun r obs' => r = .tup [wD 0, iD e] ∧ obs' = cpB g S) := by
  have hmg := mget_embW S.2.2 a
  rw [hlk] at hmg
  have hkeys := embW_keys S.2.2
  have c2 : decide (n < 1) = false := by simp; omega
  refine acallm_fn [6, 7] Try.func59 rfl rfl Try.ntmps59 (by simp) (by simp) fun R hR => ?_
  (refine awp_reg_seq [0, 1, 2] fun K hK => ?_; (repeat' ((refine al_r rfl fun K' hK' => ?_); (repeat (simp only [go_sem, simprocAttr, bne_self_eq_false, he])); ((refine hK' _ _ ?_) <;> clear hK' K'))); all_goals (refine al_nil ?_; (simp only [go_sem, simprocAttr, bne_self_eq_false, he]); refine hK _ ?_; clear hK K))
  (refine awp_mv [0, 1, 2] [0, 1, 9, 3, 2] (by decide) (kept4 rfl (by simp)) ?_; simp only [go_sem, simprocAttr, bne_self_eq_false, he])
  (refine awp_reg_seq [0, 1, 2, 8, 9, 10] fun K hK => ?_; (repeat' ((refine al_r rfl fun K' hK' => ?_); (repeat (simp only [go_sem, simprocAttr, bne_self_eq_false, he])); (first | ((refine hK' _ _ ?_) <;> clear hK' K') | ((show AC _ _ (D.fn 62 _) _ _); refine acall_p (f := 62) (e := rfl) (hr := rfl) (k := hK' _ _ ?_) (hc := Try.call62) (h := hrd); clear hK' K')))); all_goals (refine al_nil ?_; (simp only [go_sem, simprocAttr, bne_self_eq_false, he]); refine hK _ ?_; clear hK K))
  refine awp_seq_k fun K hK => ?_
  (refine awp_reg_seq [0, 1, 2, 9, 10, 27] fun K hK => ?_; (repeat' ((first | refine al_r rfl fun K' hK' => ?_ | refine al_t rfl rfl fun K' hK' => ?_); (repeat (simp only [go_sem, simprocAttr, bne_self_eq_false, he])); ((refine hK' _ _ ?_) <;> clear hK' K'))); all_goals (refine al_nil ?_; (simp only [go_sem, simprocAttr, bne_self_eq_false, he]); refine hK _ ?_; clear hK K))
  refine awp_if (_) rfl (fun hc => ?_) (fun hc => ?_)
  · cases hc
  · refine awp_skip ?_
    refine hK _ ?_; clear hK K
    refine awp_seq_k fun K hK => ?_

    (refine awp_reg_seq [0, 2, 9, 11, 12] fun K hK => ?_; (repeat' ((refine al_r rfl fun K' hK' => ?_); (repeat (simp only [go_sem, simprocAttr, hkeys, hmg, Option.map_none, bne_self_eq_false, he, c2])); ((refine hK' _ _ ?_) <;> clear hK' K'))); all_goals (refine al_nil ?_; (simp only [go_sem, simprocAttr, hkeys, hmg, Option.map_none, bne_self_eq_false, he, c2]); refine hK _ ?_; clear hK K))
    (refine awp_reg_seq [0, 2, 9, 11, 39] fun K hK => ?_; (repeat' ((refine al_r rfl fun K' hK' => ?_); (repeat (simp only [go_sem, simprocAttr, hkeys, hmg, Option.map_none, bne_self_eq_false, he, c2])); ((refine hK' _ _ ?_) <;> clear hK' K'))); all_goals (refine al_nil ?_; (simp only [go_sem, simprocAttr, hkeys, hmg, Option.map_none, bne_self_eq_false, he, c2]); refine hK _ ?_; clear hK K))
    refine awp_if (_) rfl (fun hc => ?_) (fun hc => ?_)
    · cases hc
    · refine awp_skip ?_
      refine hK _ ?_; clear hK K
      refine awp_seq_k fun K hK => ?_
      (refine awp_reg_seq [0, 2, 9, 42] fun K hK => ?_; (repeat' ((refine al_r rfl fun K' hK' => ?_); (repeat (simp only [go_sem, simprocAttr, hkeys, hmg, Option.map_none, bne_self_eq_false, he, c2])); ((refine hK' _ _ ?_) <;> clear hK' K'))); all_goals (refine al_nil ?_; (simp only [go_sem, simprocAttr, hkeys, hmg, Option.map_none, bne_self_eq_false, he, c2]); refine hK _ ?_; clear hK K))
      refine awp_if (_) rfl (fun hc => ?_) (fun hc => ?_)
      · cases hc
      · refine awp_skip ?_
        refine hK _ ?_; clear hK K
        (refine awp_reg_seq [0, 2, 10, 13] fun K hK => ?_; (repeat' ((first | refine al_r rfl fun K' hK' => ?_ | refine al_d rfl fun K' hK' => ?_); (repeat (first | (simp only [go_sem, simprocAttr, hkeys, hmg, Option.map_none, bne_self_eq_false, he, c2]) | refine AS.mk ?_)); (first | ((first | refine hK' _ _ ?_ | refine ⟨?_, hK' _ _ ?_⟩) <;> clear hK' K' <;> (first | (show alist _ _ _ _ _ _; skip) | (simp; done))) | ((show AC _ _ (D.fn 19 _) _ _); refine acall_p (f := 19) (e := rfl) (hr := rfl) (k := hK' _ _ ?_) (hc := Try.call19) (h := hat); clear hK' K')))); all_goals (refine al_nil ?_; (simp only [go_sem, simprocAttr, hkeys, hmg, Option.map_none, bne_self_eq_false, he, c2]); refine hK _ ?_; clear hK K))
        refine awp_seq_k fun K hK => ?_
        (refine awp_reg_seq [0, 2, 10, 13, 53] fun K hK => ?_; (repeat' ((refine al_r rfl fun K' hK' => ?_); (repeat (simp only [go_sem, simprocAttr, hkeys, hmg, Option.map_none, bne_self_eq_false, he, c2])); ((refine hK' _ _ ?_) <;> clear hK' K'))); all_goals (refine al_nil ?_; (simp only [go_sem, simprocAttr, hkeys, hmg, Option.map_none, bne_self_eq_false, he, c2]); refine hK _ ?_; clear hK K))
        refine awp_if (_) rfl (fun hc => ?_) (fun hc => ?_)
        · (refine awp_reg_seq [6, 7] fun K hK => ?_; (repeat' ((refine al_r rfl fun K' hK' => ?_); (repeat (simp only [go_sem, simprocAttr, hkeys, hmg, Option.map_none, bne_self_eq_false, he, c2])); ((refine hK' _ _ ?_) <;> clear hK' K'))); all_goals (refine al_nil ?_; (simp only [go_sem, simprocAttr, hkeys, hmg, Option.map_none, bne_self_eq_false, he, c2]); refine hK _ ?_; clear hK K))
          refine awp_ret (hR _ _ [0, 1, 2, 3, 4] (.inl rfl) rfl (by decide) (by simp only [List.length_cons, List.length_nil]; decide) ?_)
          refine ⟨?_, ?_⟩ <;> simp only [go_sem, simprocAttr, hkeys, hmg, Option.map_none, bne_self_eq_false, he, c2, cpB, cpD]
        · cases hc
end Go.Proofs.Ytagphggcdmjlpaa.P

/- Carry's word, where an object goes over: a contract; and word as a whole. -/
namespace Go.Proofs.Ytagphggcdmjlpaa.P
open Go.Ab Go.Proofs.Ytagphggcdmjlpaa.T

theorem parts_nilK {F : CT → Int → (Int × Int) × CT} {S : CT} {acc : List Int} : partsK F S [] acc = ((acc, 0), S) := rfl
theorem parts_consK {F : CT → Int → (Int × Int) × CT} {S : CT} {p : Int} {l acc : List Int} : partsK F S (p :: l) acc = if (F S p).1.2 != 0 then (([], (F S p).1.2), (F S p).2) else partsK F (F S p).2 l (acc ++ [(F S p).1.1]) := rfl

theorem objK_ok {acc : List Int} {S : CT} {P : (Int × Int) × CT} : objK ((acc, 0), S) P = P := by unfold objK; rw [if_neg (by simp)]
theorem objK_err {acc : List Int} {e : Int} {S : CT} {P : (Int × Int) × CT} (h : (e != 0) = true) : objK ((acc, e), S) P = ((0, e), S) := by unfold objK; rw [if_pos h]

/-- All heaps of the copier are of a size. -/
def CtOk (g : List Int) (S : CT) : Prop := S.1.length = g.length ∧ S.2.1.length ≤ 4000


set_option maxRecDepth 100000 in
theorem carryParts (g : List Int) (F : CT → Int → (Int × Int) × CT) (S : CT) (w n : Int) (a : Nat) (o : Obj) (hn : 1 ≤ n) (hn2 : n ≤ 1000) (hrd : ACallP Try.prog 62 [wD w] (.tup [iD 4, iD a, iD 0])) (hlk : lk S.2.2 a = none)
    (hat : ACalls Try.prog 19 [words g, iD a] [] (fun r obs' => r = .tup [.agg [iD o.at_, iD o.kind, iD o.num, .p (.lit (.string o.text)), .ref 0 0 o.parts.length], iD 0] ∧ obs' = [.row 1 (o.parts.map wrow)]))
    (hoa : o.at_ = a) (hag : a ≤ g.length) (hg4 : g.length ≤ 4000) (hpl : o.parts.length ≤ 400) (hS : CtOk g S)
    (hF : ∀ S p, p ∈ o.parts → CtOk g S → ACalls Try.prog 59 [.ptr 0 0 0, wD p, iD (n - 1)] (cpA g S) (fun r obs' => r = .tup [wD (F S p).1.1, iD (F S p).1.2] ∧ obs' = cpB g (F S p).2) ∧ CtOk g (F S p).2) :
    ACalls Try.prog 59 [.ptr 0 0 0, wD w, iD n] (cpA g S) (fun r obs' => r = .tup [wD (objK (partsK F S o.parts []) (putK (partsK F S o.parts []).2 { o with parts := (partsK F S o.parts []).1.1 })).1.1, iD (objK (partsK F S o.parts []) (putK (partsK F S o.parts []).2 { o with parts := (partsK F S o.parts []).1.1 })).1.2] ∧
      obs' = cpB g (objK (partsK F S o.parts []) (putK (partsK F S o.parts []).2 { o with parts := (partsK F S o.parts []).1.1 })).2) := by
  have hmg := mget_embW S.2.2 a
  rw [hlk] at hmg
  have hkeys := embW_keys S.2.2
  have c2 : decide (n < 1) = false := by simp; omega
  have hwn : IntKind.i64.wrap (n - 1) = n - 1 := Go.Ab.wrap_small (by omega) (by omega)
  obtain ⟨RC, hRC⟩ : ∃ RC, RC = partsK F S o.parts [] := ⟨_, rfl⟩
  rw [← hRC]
  obtain ⟨V, hV⟩ : ∃ V, V = objK RC (putK RC.2 { o with parts := RC.1.1 }) := ⟨_, rfl⟩
  rw [← hV]
  refine acallm_fn [6, 7] Try.func59 rfl rfl Try.ntmps59 (by simp) (by simp) fun R hR => ?_
  (refine awp_reg_seq [0, 1, 2] fun K hK => ?_; (repeat' ((refine al_r rfl fun K' hK' => ?_); (repeat (simp only [go_sem, simprocAttr, bne_self_eq_false])); ((refine hK' _ _ ?_) <;> clear hK' K'))); all_goals (refine al_nil ?_; (simp only [go_sem, simprocAttr, bne_self_eq_false]); refine hK _ ?_; clear hK K))
  (refine awp_mv [0, 1, 2] [0, 1, 9, 3, 2] (by decide) (kept4 rfl (by simp)) ?_; simp only [go_sem, simprocAttr, bne_self_eq_false])
  (refine awp_reg_seq [0, 1, 2, 8, 9, 10] fun K hK => ?_; (repeat' ((refine al_r rfl fun K' hK' => ?_); (repeat (simp only [go_sem, simprocAttr, bne_self_eq_false])); (first | ((refine hK' _ _ ?_) <;> clear hK' K') | ((show AC _ _ (D.fn 62 _) _ _); refine acall_p (f := 62) (e := rfl) (hr := rfl) (k := hK' _ _ ?_) (hc := Try.call62) (h := hrd); clear hK' K')))); all_goals (refine al_nil ?_; (simp only [go_sem, simprocAttr, bne_self_eq_false]); refine hK _ ?_; clear hK K))
  refine awp_seq_k fun K hK => ?_
  (refine awp_reg_seq [0, 1, 2, 9, 10, 27] fun K hK => ?_; (repeat' ((first | refine al_r rfl fun K' hK' => ?_ | refine al_t rfl rfl fun K' hK' => ?_); (repeat (simp only [go_sem, simprocAttr, bne_self_eq_false])); ((refine hK' _ _ ?_) <;> clear hK' K'))); all_goals (refine al_nil ?_; (simp only [go_sem, simprocAttr, bne_self_eq_false]); refine hK _ ?_; clear hK K))
  refine awp_if (_) rfl (fun hc => ?_) (fun hc => ?_)
  · cases hc
  · refine awp_skip ?_
    refine hK _ ?_; clear hK K
    refine awp_seq_k fun K hK => ?_

    (refine awp_reg_seq [0, 2, 9, 11, 12] fun K hK => ?_; (repeat' ((refine al_r rfl fun K' hK' => ?_); (repeat (simp only [go_sem, simprocAttr, hkeys, hmg, Option.map_none, bne_self_eq_false, c2])); ((refine hK' _ _ ?_) <;> clear hK' K'))); all_goals (refine al_nil ?_; (simp only [go_sem, simprocAttr, hkeys, hmg, Option.map_none, bne_self_eq_false, c2]); refine hK _ ?_; clear hK K))
    (refine awp_reg_seq [0, 2, 9, 11, 39] fun K hK => ?_; (repeat' ((refine al_r rfl fun K' hK' => ?_); (repeat (simp only [go_sem, simprocAttr, hkeys, hmg, Option.map_none, bne_self_eq_false, c2])); ((refine hK' _ _ ?_) <;> clear hK' K'))); all_goals (refine al_nil ?_; (simp only [go_sem, simprocAttr, hkeys, hmg, Option.map_none, bne_self_eq_false, c2]); refine hK _ ?_; clear hK K))
    refine awp_if (_) rfl (fun hc => ?_) (fun hc => ?_)
    · cases hc
    · refine awp_skip ?_
      refine hK _ ?_; clear hK K
      refine awp_seq_k fun K hK => ?_
      (refine awp_reg_seq [0, 2, 9, 42] fun K hK => ?_; (repeat' ((refine al_r rfl fun K' hK' => ?_); (repeat (simp only [go_sem, simprocAttr, hkeys, hmg, Option.map_none, bne_self_eq_false, c2])); ((refine hK' _ _ ?_) <;> clear hK' K'))); all_goals (refine al_nil ?_; (simp only [go_sem, simprocAttr, hkeys, hmg, Option.map_none, bne_self_eq_false, c2]); refine hK _ ?_; clear hK K))
      refine awp_if (_) rfl (fun hc => ?_) (fun hc => ?_)
      · cases hc
      · refine awp_skip ?_
        refine hK _ ?_; clear hK K

        (refine awp_reg_seq [0, 2, 10, 13] fun K hK => ?_; (repeat' ((first | refine al_r rfl fun K' hK' => ?_ | refine al_d rfl fun K' hK' => ?_); (repeat (first | (simp only [go_sem, simprocAttr, bne_self_eq_false]) | refine AS.mk ?_)); (first | ((first | refine hK' _ _ ?_ | refine ⟨?_, hK' _ _ ?_⟩) <;> clear hK' K' <;> (first | (show alist _ _ _ _ _ _; skip) | (simp; done))) | ((show AC _ _ (D.fn 19 _) _ _); refine acall_new (f := 19) Try.call19 hat rfl ?_; rintro r obs' ⟨rfl, rfl⟩; (simp only [go_sem, simprocAttr, bne_self_eq_false]); refine hK' _ _ ?_; clear hK' K')))); all_goals (refine al_nil ?_; (simp only [go_sem, simprocAttr, bne_self_eq_false]); refine hK _ ?_; clear hK K))
        refine awp_seq_k fun K hK => ?_
        (refine awp_reg_seq [0, 2, 10, 13, 53] fun K hK => ?_; (repeat' ((refine al_r rfl fun K' hK' => ?_); (repeat (simp only [go_sem, simprocAttr, bne_self_eq_false])); ((refine hK' _ _ ?_) <;> clear hK' K'))); all_goals (refine al_nil ?_; (simp only [go_sem, simprocAttr, bne_self_eq_false]); refine hK _ ?_; clear hK K))
        refine awp_if (_) rfl (fun hc => ?_) (fun hc => ?_)
        · cases hc
        · refine awp_skip ?_
          refine hK _ ?_; clear hK K
          refine awp_seq_k fun K hK => ?_

          (refine awp_reg_seq [0, 2, 13, 56, 57, 58] fun K hK => ?_; (repeat' ((refine al_r rfl fun K' hK' => ?_); (repeat (simp only [go_sem, simprocAttr, List.length_map])); ((first | refine hK' _ _ ?_ | refine ⟨?_, hK' _ _ ?_⟩) <;> clear hK' K' <;> (first | (show alist _ _ _ _ _ _; skip) | (intro s hs; cases hs; done))))); all_goals (refine al_nil ?_; (simp only [go_sem, simprocAttr, List.length_map]); refine hK _ ?_; clear hK K))
          refine awp_block ?_
          -- loop 0 head [0, 2, 13, 56, 57, 58]
          refine awp_loop_cut (fun m s => ∃ (i : Nat) (acc : List Int) (S1 : CT) (Z : List Int), i ≤ o.parts.length ∧ m = o.parts.length - i ∧ acc.length = i ∧ CtOk g S1 ∧ RC = partsK F S1 (o.parts.drop i) acc ∧ Z = acc ++ o.parts.drop i ∧ s = ⟨ofL [(0, .ptr 0 0 0), (2, iD n), (13, .ptr 6 0 0), (56, .ref 5 0 o.parts.length), (57, iD o.parts.length), (58, iD i)], cpB g S1 ++ [.row 1 (Z.map wrow), .box [iD o.at_, iD o.kind, iD o.num, .p (.lit (.string o.text)), .ref 5 0 o.parts.length]], 4⟩) ⟨_, 0, [], S, o.parts, Nat.zero_le _, rfl, rfl, hS, hRC, rfl, rfl⟩ ?_
          clear hRC
          rintro m s ⟨i, acc, S1, Z, hi, hmi, hacc, hS1, hRC, hZ, rfl⟩
          (refine awp_reg_seq [0, 2, 13, 56, 57, 58, 59] fun K hK => ?_; (repeat' ((refine al_r rfl fun K' hK' => ?_); (repeat (simp only [go_sem, simprocAttr, List.length_map])); ((refine hK' _ _ ?_) <;> clear hK' K'))); all_goals (refine al_nil ?_; (simp only [go_sem, simprocAttr, List.length_map]); refine hK _ ?_; clear hK K))
          refine awp_seq_k fun K hK => ?_
          refine awp_if (decide ((i : Int) < (o.parts.length : Int))) rfl (fun hc => ?_) (fun hc => ?_)
          · refine awp_skip ?_
            refine hK _ ?_; clear hK K
            refine awp_seq_k fun K hK => ?_
            refine awp_block ?_
            have hi2 : i < o.parts.length := by simpa using hc
            obtain ⟨p, hgp⟩ := get_of_lt hi2
            have hnn : (0 : Int) ≤ (i : Int) := Int.natCast_nonneg i
            have hnx : IntKind.i64.wrap ((i : Int) + 1) = ((i + 1 : Nat) : Int) := by rw [Go.Ab.wrap_small (by omega) (by omega)]; rfl
            have hga : Z[i]? = some p := by rw [hZ, List.getElem?_append_right (by omega), hacc, Nat.sub_self, List.getElem?_drop, Nat.add_zero]; exact hgp
            obtain ⟨hw, hS2⟩ := hF S1 p (List.mem_of_getElem? hgp) hS1
            have hRC2 : RC = if (F S1 p).1.2 != 0 then (([], (F S1 p).1.2), (F S1 p).2) else partsK F (F S1 p).2 (o.parts.drop (i + 1)) (acc ++ [(F S1 p).1.1]) := by rw [hRC, drop_of hgp, parts_consK]
            clear hRC
            generalize F S1 p = W at hw hS2 hRC2
            obtain ⟨⟨x, e⟩, S2⟩ := W
            simp only at hw hS2 hRC2
            have hset : (Z.map wrow).set i (wrow x) = (Z.set i x).map wrow := by rw [List.map_set]
            have hZ2 : Z.set i x = (acc ++ [x]) ++ o.parts.drop (i + 1) := by
              rw [hZ, List.set_append_right _ _ (by omega), hacc, Nat.sub_self, drop_of hgp, List.set_cons_zero, List.append_assoc]; rfl
            have hdl : Z.length = o.parts.length := by rw [hZ]; simp; omega

            (refine awp_reg_seq [0, 2, 13, 14, 15, 56, 57, 58] fun K hK => ?_; (repeat' ((refine al_r rfl fun K' hK' => ?_); (repeat (simp only [go_sem, simprocAttr, hga, hnn, hi2, hnx, hwn, hset, hdl, Int.toNat_natCast, List.getElem?_map, Option.map_some, List.length_map])); ((first | refine hK' _ _ ?_ | refine ⟨?_, hK' _ _ ?_⟩) <;> clear hK' K' <;> (first | (show alist _ _ _ _ _ _; skip) | omega)))); all_goals (refine al_nil ?_; (simp only [go_sem, simprocAttr, hga, hnn, hi2, hnx, hwn, hset, hdl, Int.toNat_natCast, List.getElem?_map, Option.map_some, List.length_map]); refine hK _ ?_; clear hK K))
            refine awp_suff ⟨ofL [(0, .ptr 0 0 0), (2, iD n), (10, iD e), (13, .ptr 6 0 0), (56, .ref 5 0 o.parts.length), (57, iD o.parts.length), (58, iD i)], cpB g S2 ++ [.row 1 ((Z.set i x).map wrow), .box [iD o.at_, iD o.kind, iD o.num, .p (.lit (.string o.text)), .ref 5 0 o.parts.length]], 4⟩ ?_ (fun keyA => ?_)
            rotate_left
            · refine awp_draw_seq (by kernel_rfl) [0, 2, 10, 13, 56, 57, 58] fun K hK => ?_
              ((refine ah_r 0 rfl (by kernel_rfl) rfl fun K' hK' => ?_); (simp only [go_sem, simprocAttr, hga, hnn, hi2, hnx, hwn, hset, hdl, Int.toNat_natCast, List.getElem?_map, Option.map_some, List.length_map]); ((refine hK' _ ?_); clear hK' K'))
              ((refine ah_r 2 rfl (by kernel_rfl) rfl fun K' hK' => ?_); (simp only [go_sem, simprocAttr, hga, hnn, hi2, hnx, hwn, hset, hdl, Int.toNat_natCast, List.getElem?_map, Option.map_some, List.length_map]); ((refine hK' _ ?_); clear hK' K'))
              ((refine ah_r 3 rfl (by kernel_rfl) rfl fun K' hK' => ?_); (simp only [go_sem, simprocAttr, hga, hnn, hi2, hnx, hwn, hset, hdl, Int.toNat_natCast, List.getElem?_map, Option.map_some, List.length_map]); ((refine hK' _ ?_); clear hK' K'))
              ((refine ah_r 4 rfl (by kernel_rfl) rfl fun K' hK' => ?_); (simp only [go_sem, simprocAttr, hga, hnn, hi2, hnx, hwn, hset, hdl, Int.toNat_natCast, List.getElem?_map, Option.map_some, List.length_map]); ((refine hK' _ ?_); clear hK' K'))
              ((refine ah_r 5 rfl (by kernel_rfl) rfl fun K' hK' => ?_); (simp only [go_sem, simprocAttr, hga, hnn, hi2, hnx, hwn, hset, hdl, Int.toNat_natCast, List.getElem?_map, Option.map_some, List.length_map]); ((refine hK' _ ?_); clear hK' K'))
              ((refine ah_r 6 rfl (by kernel_rfl) rfl fun K' hK' => ?_); (simp only [go_sem, simprocAttr, hga, hnn, hi2, hnx, hwn, hset, hdl, Int.toNat_natCast, List.getElem?_map, Option.map_some, List.length_map]); ((refine hK' _ ?_); clear hK' K'))
              refine ah_two 1 7 rfl rfl (by kernel_rfl) ?_ ?_
              · ((repeat' ((refine al_r rfl fun K' hK' => ?_); (repeat (simp only [go_sem, simprocAttr, hga, hnn, hi2, hnx, hwn, hset, hdl, Int.toNat_natCast, List.getElem?_map, Option.map_some, List.length_map])); ((refine hK' _ _ ?_) <;> clear hK' K'))); all_goals refine al_nil ?_)
                (refine ah_one 7 rfl (by kernel_rfl) ?_; (repeat' ((refine al_r rfl fun K' hK' => ?_); (repeat (simp only [go_sem, simprocAttr, hga, hnn, hi2, hnx, hwn, hset, hdl, Int.toNat_natCast, List.getElem?_map, Option.map_some, List.length_map])); ((show AC _ _ (D.fn 59 _) _ _); refine acall_m (f := 59) [0, 1, 4, 3] Try.call59 hw rfl rfl (by decide) (by simp) ?_; rintro r obs' ⟨rfl, rfl⟩; refine ⟨by simp, ?_⟩; (simp only [go_sem, simprocAttr, hga, hnn, hi2, hnx, hwn, hset, hdl, Int.toNat_natCast, List.getElem?_map, Option.map_some, List.length_map]); refine hK' _ _ ?_; clear hK' K'))); all_goals refine al_nil ?_)
                ((refine ah_r 8 rfl (by kernel_rfl) rfl fun K' hK' => ?_); (simp only [go_sem, simprocAttr, hga, hnn, hi2, hnx, hwn, hset, hdl, Int.toNat_natCast, List.getElem?_map, Option.map_some, List.length_map]); ((refine hK' _ ?_); clear hK' K'))
                ((refine ah_r 9 rfl (by kernel_rfl) rfl fun K' hK' => ?_); (simp only [go_sem, simprocAttr, hga, hnn, hi2, hnx, hwn, hset, hdl, Int.toNat_natCast, List.getElem?_map, Option.map_some, List.length_map]); ((refine hK' _ ?_); clear hK' K'))
                ((refine ah_r 10 rfl (by kernel_rfl) rfl fun K' hK' => ?_); (simp only [go_sem, simprocAttr, hga, hnn, hi2, hnx, hwn, hset, hdl, Int.toNat_natCast, List.getElem?_map, Option.map_some, List.length_map]); ((refine hK' _ ?_); clear hK' K'))
                ((refine ah_r 11 rfl (by kernel_rfl) rfl fun K' hK' => ?_); (simp only [go_sem, simprocAttr, hga, hnn, hi2, hnx, hwn, hset, hdl, Int.toNat_natCast, List.getElem?_map, Option.map_some, List.length_map]); ((refine ⟨?_, hK' _ ?_⟩) <;> clear hK' K' <;> (first | omega | skip)))
                (refine ah_one 12 rfl (by kernel_rfl) ?_; (repeat' ((refine al_d rfl fun K' hK' => ?_); (repeat (first | (simp only [go_sem, simprocAttr, hga, hnn, hi2, hnx, hwn, hset, hdl, Int.toNat_natCast, List.getElem?_map, Option.map_some, List.length_map]) | refine AS.mk ?_)); ((refine ⟨?_, hK' _ _ ?_⟩) <;> clear hK' K' <;> (first | (show alist _ _ _ _ _ _; skip) | (simp; done))))); all_goals refine al_nil ?_)
                ((refine ah_r 13 rfl (by kernel_rfl) rfl fun K' hK' => ?_); (simp only [go_sem, simprocAttr, hga, hnn, hi2, hnx, hwn, hset, hdl, Int.toNat_natCast, List.getElem?_map, Option.map_some, List.length_map]); ((refine hK' _ ?_); clear hK' K'))
                (refine ah_done (by kernel_rfl) ?_; (simp only [go_sem, simprocAttr, hga, hnn, hi2, hnx, hwn, hset, hdl, Int.toNat_natCast, List.getElem?_map, Option.map_some, List.length_map]); refine hK _ ?_; clear hK K)
                (refine awp_frz [0, 2, 10, 13, 56, 57, 58] [0, 1, 2, 3, 7, 5, 6] (by decide) (by (exact kept0123)) ?_; simp only [go_sem, simprocAttr, hga, hnn, hi2, hnx, hwn, hset, hdl, Int.toNat_natCast, List.getElem?_map, Option.map_some, List.length_map])
                exact keyA
              · ((repeat' ((refine al_r rfl fun K' hK' => ?_); (repeat (simp only [go_sem, simprocAttr, hga, hnn, hi2, hnx, hwn, hset, hdl, Int.toNat_natCast, List.getElem?_map, Option.map_some, List.length_map])); ((show AC _ _ (D.fn 59 _) _ _); refine acall_m (f := 59) [0, 1, 4, 3] Try.call59 hw rfl rfl (by decide) (by simp) ?_; rintro r obs' ⟨rfl, rfl⟩; refine ⟨by simp, ?_⟩; (simp only [go_sem, simprocAttr, hga, hnn, hi2, hnx, hwn, hset, hdl, Int.toNat_natCast, List.getElem?_map, Option.map_some, List.length_map]); refine hK' _ _ ?_; clear hK' K'))); all_goals refine al_nil ?_)
                ((refine ah_r 8 rfl (by kernel_rfl) rfl fun K' hK' => ?_); (simp only [go_sem, simprocAttr, hga, hnn, hi2, hnx, hwn, hset, hdl, Int.toNat_natCast, List.getElem?_map, Option.map_some, List.length_map]); ((refine hK' _ ?_); clear hK' K'))
                ((refine ah_r 9 rfl (by kernel_rfl) rfl fun K' hK' => ?_); (simp only [go_sem, simprocAttr, hga, hnn, hi2, hnx, hwn, hset, hdl, Int.toNat_natCast, List.getElem?_map, Option.map_some, List.length_map]); ((refine hK' _ ?_); clear hK' K'))
                ((refine ah_r 10 rfl (by kernel_rfl) rfl fun K' hK' => ?_); (simp only [go_sem, simprocAttr, hga, hnn, hi2, hnx, hwn, hset, hdl, Int.toNat_natCast, List.getElem?_map, Option.map_some, List.length_map]); ((refine hK' _ ?_); clear hK' K'))
                (refine ah_one 1 rfl (by kernel_rfl) ?_; (repeat' ((refine al_r rfl fun K' hK' => ?_); (repeat (simp only [go_sem, simprocAttr, hga, hnn, hi2, hnx, hwn, hset, hdl, Int.toNat_natCast, List.getElem?_map, Option.map_some, List.length_map])); ((refine hK' _ _ ?_) <;> clear hK' K'))); all_goals refine al_nil ?_)
                ((refine ah_r 11 rfl (by kernel_rfl) rfl fun K' hK' => ?_); (simp only [go_sem, simprocAttr, hga, hnn, hi2, hnx, hwn, hset, hdl, Int.toNat_natCast, List.getElem?_map, Option.map_some, List.length_map]); ((refine ⟨?_, hK' _ ?_⟩) <;> clear hK' K' <;> (first | omega | skip)))
                (refine ah_one 12 rfl (by kernel_rfl) ?_; (repeat' ((refine al_d rfl fun K' hK' => ?_); (repeat (first | (simp only [go_sem, simprocAttr, hga, hnn, hi2, hnx, hwn, hset, hdl, Int.toNat_natCast, List.getElem?_map, Option.map_some, List.length_map]) | refine AS.mk ?_)); ((refine ⟨?_, hK' _ _ ?_⟩) <;> clear hK' K' <;> (first | (show alist _ _ _ _ _ _; skip) | (simp; done))))); all_goals refine al_nil ?_)
                ((refine ah_r 13 rfl (by kernel_rfl) rfl fun K' hK' => ?_); (simp only [go_sem, simprocAttr, hga, hnn, hi2, hnx, hwn, hset, hdl, Int.toNat_natCast, List.getElem?_map, Option.map_some, List.length_map]); ((refine hK' _ ?_); clear hK' K'))
                (refine ah_done (by kernel_rfl) ?_; (simp only [go_sem, simprocAttr, hga, hnn, hi2, hnx, hwn, hset, hdl, Int.toNat_natCast, List.getElem?_map, Option.map_some, List.length_map]); refine hK _ ?_; clear hK K)
                (refine awp_frz [0, 2, 10, 13, 56, 57, 58] [0, 1, 2, 3, 7, 5, 6] (by decide) (by (exact kept0123)) ?_; simp only [go_sem, simprocAttr, hga, hnn, hi2, hnx, hwn, hset, hdl, Int.toNat_natCast, List.getElem?_map, Option.map_some, List.length_map])
                exact keyA
            (refine awp_reg_seq [0, 2, 10, 13, 56, 57, 58, 76] fun K hK => ?_; (repeat' ((refine al_r rfl fun K' hK' => ?_); (repeat (simp only [go_sem, simprocAttr, hga, hnn, hi2, hnx, hwn, hset, hdl, Int.toNat_natCast, List.getElem?_map, Option.map_some, List.length_map])); ((refine hK' _ _ ?_) <;> clear hK' K'))); all_goals (refine al_nil ?_; (simp only [go_sem, simprocAttr, hga, hnn, hi2, hnx, hwn, hset, hdl, Int.toNat_natCast, List.getElem?_map, Option.map_some, List.length_map]); refine hK _ ?_; clear hK K))
            refine awp_if (e != 0) rfl (fun hc => ?_) (fun hc => ?_)
            · (refine awp_reg_seq [6, 7] fun K hK => ?_; (repeat' ((refine al_r rfl fun K' hK' => ?_); (repeat (simp only [go_sem, simprocAttr, hga, hnn, hi2, hnx, hwn, hset, hdl, Int.toNat_natCast, List.getElem?_map, Option.map_some, List.length_map])); ((refine hK' _ _ ?_) <;> clear hK' K'))); all_goals (refine al_nil ?_; (simp only [go_sem, simprocAttr, hga, hnn, hi2, hnx, hwn, hset, hdl, Int.toNat_natCast, List.getElem?_map, Option.map_some, List.length_map]); refine hK _ ?_; clear hK K))
              rw [if_pos hc] at hRC2
              have hV3 : V = ((0, e), S2) := by rw [hV, hRC2]; exact objK_err hc
              refine awp_ret (hR _ _ [0, 1, 2, 3, 4] (.inl rfl) rfl (by decide) (by simp only [List.length_cons, List.length_nil]; decide) ?_)
              rw [hV3]
              refine ⟨?_, ?_⟩ <;> simp only [go_sem, simprocAttr, hga, hnn, hi2, hnx, hwn, hset, hdl, Int.toNat_natCast, List.getElem?_map, Option.map_some, List.length_map, cpB, cpD]
            · rw [if_neg (by rw [hc]; exact Bool.false_ne_true)] at hRC2
              refine awp_skip ?_
              refine hK _ ?_; clear hK K
              (refine awp_reg_end [0, 2, 13, 56, 57, 58] fun K hK => ?_; (repeat' ((refine al_r rfl fun K' hK' => ?_); (repeat (simp only [go_sem, simprocAttr, hga, hnn, hi2, hnx, hwn, hset, hdl, Int.toNat_natCast, List.getElem?_map, Option.map_some, List.length_map])); ((refine hK' _ _ ?_) <;> clear hK' K'))); all_goals (refine al_nil ?_; (simp only [go_sem, simprocAttr, hga, hnn, hi2, hnx, hwn, hset, hdl, Int.toNat_natCast, List.getElem?_map, Option.map_some, List.length_map]); refine hK _ ?_; clear hK K))
              refine ⟨o.parts.length - (i + 1), by omega, [0, 2, 13, 56, 57, 58], [0, 1, 2, 3, 4, 5, 6], by decide, kept0123, i + 1, acc ++ [x], S2, Z.set i x, hi2, rfl, by simp [hacc], hS2, hRC2, hZ2, ?_⟩
              simp only [go_sem, simprocAttr, hga, hnn, hi2, hnx, hwn, hset, hdl, Int.toNat_natCast, List.getElem?_map, Option.map_some, List.length_map, cpB, cpD]

          · have hie : i = o.parts.length := by simp at hc; omega
            subst hie
            rw [List.drop_length, parts_nilK] at hRC
            have hV3 : V = putK S1 { o with parts := acc } := by
              rw [hV, hRC]
              exact objK_ok
            have hta : List.take o.parts.length (acc.map wrow) = acc.map wrow := List.take_of_length_le (by simp; omega)
            have hput := putC g S1 { o with parts := acc } a hoa (by rw [hS1.1]; exact hag) (by rw [hS1.1]; exact hg4) (by have := hS1.2; simp only [maxLen]; omega)
            rw [← hV3] at hput
            clear hV3 hV
            rw [List.drop_length, List.append_nil] at hZ
            subst hZ

            (refine awp_frz [0, 13] [0, 1, 2, 3, 4] (by decide) (by (exact kept0123)) ?_; simp only [go_sem, simprocAttr, List.length_map, hta, List.drop_zero])
            refine awp_exit ?_
            clear hK
            refine hK _ ?_; clear hK K
            (refine awp_reg_seq [6, 7] fun K hK => ?_; (repeat' ((refine al_r rfl fun K' hK' => ?_); (repeat (simp only [go_sem, simprocAttr, List.length_map, hta, List.drop_zero])); (first | ((refine hK' _ _ ?_) <;> clear hK' K') | ((show AC _ _ (D.fn 83 _) _ _); refine acall_m (f := 83) [0, 1, 4, 3] Try.call83 hput rfl rfl (by decide) (by simp) ?_; rintro r obs' ⟨rfl, rfl⟩; refine ⟨by simp, ?_⟩; (simp only [go_sem, simprocAttr, List.length_map, hta, List.drop_zero]); refine hK' _ _ ?_; clear hK' K')))); all_goals (refine al_nil ?_; (simp only [go_sem, simprocAttr, List.length_map, hta, List.drop_zero]); refine hK _ ?_; clear hK K))
            refine awp_ret (hR _ _ [0, 1, 2, 3, 5] (.inl rfl) rfl (by decide) (by simp only [List.length_cons, List.length_nil]; decide) ?_)
            refine ⟨?_, ?_⟩ <;> simp only [go_sem, simprocAttr, List.length_map, hta, List.drop_zero, cpB, cpD]
end Go.Proofs.Ytagphggcdmjlpaa.P

/- Carry's word as a whole, and Over. -/
namespace Go.Proofs.Ytagphggcdmjlpaa.P
open Go.Ab Go.Proofs.Ytagphggcdmjlpaa.T

theorem putS_len2 {h : List Int} {o : Obj} (he : (putS h o).2.2 = 0) : (putS h o).1.length ≤ 4000 := by
  unfold putS at he ⊢
  split at he
  · cases he
  · rename_i h1
    rw [if_neg h1]
    split at he
    · cases he
    · rename_i h2
      rw [if_neg h2]
      rw [decide_eq_true_eq] at h2
      show (h ++ encW o).length ≤ 4000
      rw [List.length_append, enc_len]; omega

theorem leftK_len {l : List Int} {o : Obj} {n : Nat} (ho : o.at_ = n) (hn : n ≤ l.length) : (leftK l o).length = l.length := by
  unfold leftK
  split
  · rw [ho, Int.toNat_natCast]
    exact over_length (by rw [List.length_take]; simp; omega)
  · rfl

theorem putK_ok {g : List Int} {S : CT} {o : Obj} {n : Nat} (hS : CtOk g S) (ho : o.at_ = n) (hn : n ≤ g.length) : CtOk g (putK S o).2 := by
  unfold putK
  by_cases hg : (putS S.2.1 o).2.2 = 0
  · rw [if_neg (by simp [hg])]
    exact ⟨by show (leftK S.1 o).length = _; rw [leftK_len ho (by rw [hS.1]; exact hn), hS.1], putS_len2 hg⟩
  · rw [if_pos (by simpa using hg)]
    exact hS

theorem partsK_ok {g : List Int} {F : CT → Int → (Int × Int) × CT} : ∀ (ps acc : List Int) (S : CT), CtOk g S → (∀ S p, p ∈ ps → CtOk g S → CtOk g (F S p).2) → CtOk g (partsK F S ps acc).2
  | [], _, S, hS, _ => hS
  | p :: l, acc, S, hS, hF => by
    rw [parts_consK]
    have h1 := hF S p List.mem_cons_self hS
    split
    · exact h1
    · exact partsK_ok l _ _ h1 fun S q hq => hF S q (List.mem_cons_of_mem _ hq)

theorem wordK_triv {g : List Int} {S : CT} {w : Int} (n : Nat) (h : ((readS w).2.2 != 0 || (readS w).1 != 4) = true) : wordK g n S w = ((w, (readS w).2.2), S) := by
  cases n with
  | zero => rw [wordK]; exact stepK_triv h
  | succ n => rw [wordK]; exact stepK_triv h
theorem wordK_done {g : List Int} {S : CT} {w x : Int} (n : Nat) (h : ¬ ((readS w).2.2 != 0 || (readS w).1 != 4) = true) (hl : lk S.2.2 (readS w).2.1 = some x) : wordK g n S w = ((x, 0), S) := by
  cases n with
  | zero => rw [wordK]; exact stepK_done h hl
  | succ n => rw [wordK]; exact stepK_done h hl
theorem wordK_deep {g : List Int} {S : CT} {w : Int} (h : ¬ ((readS w).2.2 != 0 || (readS w).1 != 4) = true) (hl : lk S.2.2 (readS w).2.1 = none) : wordK g 0 S w = ((0, 2), S) := by
  rw [wordK]; exact stepK_none h hl
theorem wordK_none {g : List Int} {S : CT} {w : Int} {n : Nat} (h : ¬ ((readS w).2.2 != 0 || (readS w).1 != 4) = true) (hl : lk S.2.2 (readS w).2.1 = none) (he : ((atS g (readS w).2.1).2 != 0) = true) : wordK g (n + 1) S w = ((0, (atS g (readS w).2.1).2), S) := by
  rw [wordK, stepK_none h hl]; exact goK_none he
theorem wordK_obj {g : List Int} {S : CT} {w : Int} {n : Nat} {o : Obj} (h : ¬ ((readS w).2.2 != 0 || (readS w).1 != 4) = true) (hl : lk S.2.2 (readS w).2.1 = none) (ho : atS g (readS w).2.1 = (o, 0)) :
    wordK g (n + 1) S w = objK (partsK (wordK g n) S o.parts []) (putK (partsK (wordK g n) S o.parts []).2 { o with parts := (partsK (wordK g n) S o.parts []).1.1 }) := by
  rw [wordK, stepK_none h hl, ho]; exact goK_obj

theorem finK2 {f : FuncId} {args : List D} {obs : List Ob} {g : List Int} {U : (Int × Int) × CT} (W : (Int × Int) × CT) (h0 : W = U) (h : ACalls Try.prog f args obs (fun r obs' => r = .tup [wD U.1.1, iD U.1.2] ∧ obs' = cpB g U.2)) :
    ACalls Try.prog f args obs (fun r obs' => r = .tup [wD W.1.1, iD W.1.2] ∧ obs' = cpB g W.2) := by
  subst h0; exact h

theorem wordKc (g : List Int) (hg4 : g.length ≤ 4000) (hok : ∀ w, w ∈ g → WordOk w) : ∀ (n : Nat), n ≤ 1000 → ∀ (S : CT) (w : Int), CtOk g S →
    ACalls Try.prog 59 [.ptr 0 0 0, wD w, iD n] (cpA g S) (fun r obs' => r = .tup [wD (wordK g n S w).1.1, iD (wordK g n S w).1.2] ∧ obs' = cpB g (wordK g n S w).2) ∧ CtOk g (wordK g n S w).2 := by
  intro n
  induction n with
  | zero =>
    intro _ S w hS
    have hrd := readW w
    by_cases h1 : ((readS w).2.2 != 0 || (readS w).1 != 4) = true
    · have e := wordK_triv (g := g) (S := S) 0 h1
      exact ⟨finK _ e (carryTriv g S w _ _ _ _ hrd h1), by rw [e]; exact hS⟩
    · have hrd2 := hrd
      simp only [Bool.or_eq_true, not_or, bne_iff_ne, ne_eq, Decidable.not_not] at h1
      rw [h1.1, h1.2] at hrd2
      have h1 : ¬ ((readS w).2.2 != 0 || (readS w).1 != 4) = true := by rw [h1.1, h1.2]; simp
      cases hl : lk S.2.2 (readS w).2.1 with
      | some x =>
        have e := wordK_done (g := g) 0 h1 hl
        exact ⟨finK _ e (carryDone g S w _ _ x hrd2 hl), by rw [e]; exact hS⟩
      | none =>
        have e := wordK_deep (g := g) h1 hl
        exact ⟨finK _ e (carryDeep g S w _ hrd2 hl), by rw [e]; exact hS⟩
  | succ n ih =>
    intro hn S w hS
    have hrd := readW w
    by_cases h1 : ((readS w).2.2 != 0 || (readS w).1 != 4) = true
    · have e := wordK_triv (g := g) (S := S) (n + 1) h1
      exact ⟨finK _ e (carryTriv g S w _ _ _ _ hrd h1), by rw [e]; exact hS⟩
    · have hrd2 := hrd
      simp only [Bool.or_eq_true, not_or, bne_iff_ne, ne_eq, Decidable.not_not] at h1
      rw [h1.1, h1.2] at hrd2
      have h1 : ¬ ((readS w).2.2 != 0 || (readS w).1 != 4) = true := by rw [h1.1, h1.2]; simp
      cases hl : lk S.2.2 (readS w).2.1 with
      | some x =>
        have e := wordK_done (g := g) (n + 1) h1 hl
        exact ⟨finK _ e (carryDone g S w _ _ x hrd2 hl), by rw [e]; exact hS⟩
      | none =>
        by_cases he : (atS g (readS w).2.1).2 = 0
        · have ho : atS g (readS w).2.1 = ((atS g (readS w).2.1).1, 0) := by rw [← he]
          have e := wordK_obj (n := n) h1 hl ho
          obtain ⟨a, ea, hag, hoa, hri, _⟩ := at_ok he (by simp only [maxLen]; omega) hok
          have hat := atP g _ _ (by simp only [maxLen]; omega) hok ho
          have hpl := (right_small hri).2
          generalize (atS g (readS w).2.1).1 = o at *
          rw [ea] at hrd2 hl hat
          have hF : ∀ S p, p ∈ o.parts → CtOk g S → ACalls Try.prog 59 [.ptr 0 0 0, wD p, iD (((n + 1 : Nat) : Int) - 1)] (cpA g S) (fun r obs' => r = .tup [wD (wordK g n S p).1.1, iD (wordK g n S p).1.2] ∧ obs' = cpB g (wordK g n S p).2) ∧ CtOk g (wordK g n S p).2 := fun S p _ hS => by
            rw [show ((n + 1 : Nat) : Int) - 1 = (n : Int) by omega]
            exact ih (by omega) S p hS
          refine ⟨finK2 _ e (carryParts g (wordK g n) S w ((n + 1 : Nat) : Int) a o (by omega) (by omega) hrd2 hl hat hoa (by omega) hg4 hpl hS hF), ?_⟩
          rw [e]
          have h2 := partsK_ok o.parts [] S hS fun S p hp hS => (hF S p hp hS).2
          unfold objK
          split
          · exact h2
          · exact putK_ok h2 hoa (by omega)
        · have e := wordK_none (n := n) h1 hl (by simpa using he)
          exact ⟨finK _ e (carryNone g S w _ _ _ _ (by omega) (by simpa using he) hrd2 hl (at_ g _ (by simp only [maxLen]; omega) hok)), by rw [e]; exact hS⟩
end Go.Proofs.Ytagphggcdmjlpaa.P

/- Over: contracts. -/
namespace Go.Proofs.Ytagphggcdmjlpaa.P
open Go.Ab Go.Proofs.Ytagphggcdmjlpaa.T


set_option maxRecDepth 100000 in
theorem overOk (g t : List Int) (w : Int) (lg lt : List Obj) (hg4 : g.length ≤ 4000) (ht4 : t.length ≤ 4000) (hog : ACallP Try.prog 15 [words g] (.tup [objs lg, iD 0])) (hot : ACallP Try.prog 15 [words t] (.tup [objs lt, iD 0])) (x : Int) (S : CT)
    (hw : ACalls Try.prog 59 [.ptr 0 0 0, wD w, iD 40] (cpA g (g, t, [])) (fun r obs' => r = .tup [wD x, iD 0] ∧ obs' = cpB g S)) :
    ACalls Try.prog 27 [words g, words t, wD w] [] (fun r obs' => r = .tup [.ref 0 0 S.1.length, .ref 1 0 S.2.1.length, wD x, iD 0] ∧ obs' = [.row 1 (S.1.map wrow), .row 1 (S.2.1.map wrow)]) := by
  have hcg := cloneH (g.map wrow) (wrow1 g) (by simp; omega)
  have hct := cloneH (t.map wrow) (wrow1 t) (by simp; omega)
  rw [List.length_map] at hcg hct
  refine acallm_fn [6, 7, 8, 9] Try.func27 rfl rfl Try.ntmps27 (by simp) (by simp) fun R hR => ?_
  (refine awp_reg_seq [0, 1, 2] fun K hK => ?_; (repeat' ((refine al_r rfl fun K' hK' => ?_); (repeat (simp only [go_sem, simprocAttr, bne_self_eq_false])); ((refine hK' _ _ ?_) <;> clear hK' K'))); all_goals (refine al_nil ?_; (simp only [go_sem, simprocAttr, bne_self_eq_false]); refine hK _ ?_; clear hK K))
  refine awp_seq_k fun K hK => ?_
  (refine awp_reg_seq [0, 1, 2, 19, 20] fun K hK => ?_; (repeat' ((refine al_r rfl fun K' hK' => ?_); (repeat (simp only [go_sem, simprocAttr, bne_self_eq_false])); ((refine hK' _ _ ?_) <;> clear hK' K'))); all_goals (refine al_nil ?_; (simp only [go_sem, simprocAttr, bne_self_eq_false]); refine hK _ ?_; clear hK K))
  refine awp_block ?_
  -- loop 0 head [0, 1, 2, 19, 20]
  refine awp_loop_cut (fun m s => ∃ i : Nat, i ≤ 2 ∧ m = 2 - i ∧ s = ⟨ofL [(0, words g), (1, words t), (2, wD w), (19, .agg [words g, words t]), (20, iD i)], [], 0⟩) ⟨_, 0, Nat.zero_le _, rfl, rfl⟩ ?_
  rintro m s ⟨i, hi, hm, rfl⟩
  (refine awp_reg_seq [0, 1, 2, 19, 20, 21] fun K hK => ?_; (repeat' ((refine al_r rfl fun K' hK' => ?_); (repeat (simp only [go_sem, simprocAttr, bne_self_eq_false])); ((refine hK' _ _ ?_) <;> clear hK' K'))); all_goals (refine al_nil ?_; (simp only [go_sem, simprocAttr, bne_self_eq_false]); refine hK _ ?_; clear hK K))
  refine awp_seq_k fun K hK => ?_
  refine awp_if (decide ((i : Int) < 2)) rfl (fun hc => ?_) (fun hc => ?_)
  · refine awp_skip ?_
    refine hK _ ?_; clear hK K
    refine awp_seq_k fun K hK => ?_
    refine awp_block ?_
    have hi2 : i < 2 := by simp at hc; omega
    obtain ⟨x, l, hget, hob⟩ : ∃ (x : List Int) (l : List Obj), ([words g, words t] : List D)[i]? = some (words x) ∧ ACallP Try.prog 15 [words x] (.tup [objs l, iD 0]) := by
      match i, hi2 with
      | 0, _ => exact ⟨g, lg, rfl, hog⟩
      | 1, _ => exact ⟨t, lt, rfl, hot⟩
    have hnn : (0 : Int) ≤ (i : Int) := Int.natCast_nonneg i
    have hi2' : (i : Int) < ((2 : Nat) : Int) := by omega
    have hnx : IntKind.i64.wrap ((i : Int) + 1) = ((i + 1 : Nat) : Int) := by rw [Go.Ab.wrap_small (by omega) (by omega)]; rfl

    (refine awp_reg_seq [0, 1, 2, 11, 19, 20] fun K hK => ?_; (repeat' ((refine al_r rfl fun K' hK' => ?_); (repeat (simp only [go_sem, simprocAttr, hget, hnn, hi2', hnx, Int.toNat_natCast, Nat.mul_one, bne_self_eq_false])); ((first | refine hK' _ _ ?_ | refine ⟨?_, hK' _ _ ?_⟩) <;> clear hK' K' <;> (first | (show alist _ _ _ _ _ _; skip) | assumption)))); all_goals (refine al_nil ?_; (simp only [go_sem, simprocAttr, hget, hnn, hi2', hnx, Int.toNat_natCast, Nat.mul_one, bne_self_eq_false]); refine hK _ ?_; clear hK K))
    (refine awp_reg_seq [0, 1, 2, 13, 19, 20] fun K hK => ?_; (repeat' ((refine al_r rfl fun K' hK' => ?_); (repeat (simp only [go_sem, simprocAttr, hget, hnn, hi2', hnx, Int.toNat_natCast, Nat.mul_one, bne_self_eq_false])); (first | ((refine hK' _ _ ?_) <;> clear hK' K') | ((show AC _ _ (D.fn 15 _) _ _); refine acall_p (f := 15) (e := rfl) (hr := rfl) (k := hK' _ _ ?_) (hc := Try.call15) (h := hob); clear hK' K')))); all_goals (refine al_nil ?_; (simp only [go_sem, simprocAttr, hget, hnn, hi2', hnx, Int.toNat_natCast, Nat.mul_one, bne_self_eq_false]); refine hK _ ?_; clear hK K))
    (refine awp_reg_seq [0, 1, 2, 13, 19, 20, 29] fun K hK => ?_; (repeat' ((refine al_r rfl fun K' hK' => ?_); (repeat (simp only [go_sem, simprocAttr, hget, hnn, hi2', hnx, Int.toNat_natCast, Nat.mul_one, bne_self_eq_false])); ((refine hK' _ _ ?_) <;> clear hK' K'))); all_goals (refine al_nil ?_; (simp only [go_sem, simprocAttr, hget, hnn, hi2', hnx, Int.toNat_natCast, Nat.mul_one, bne_self_eq_false]); refine hK _ ?_; clear hK K))
    refine awp_if (_) rfl (fun hc => ?_) (fun hc => ?_)
    · cases hc
    · refine awp_skip ?_
      refine hK _ ?_; clear hK K
      (refine awp_reg_end [0, 1, 2, 19, 20] fun K hK => ?_; (repeat' ((refine al_r rfl fun K' hK' => ?_); (repeat (simp only [go_sem, simprocAttr, hget, hnn, hi2', hnx, Int.toNat_natCast, Nat.mul_one, bne_self_eq_false])); ((refine hK' _ _ ?_) <;> clear hK' K'))); all_goals (refine al_nil ?_; (simp only [go_sem, simprocAttr, hget, hnn, hi2', hnx, Int.toNat_natCast, Nat.mul_one, bne_self_eq_false]); refine hK _ ?_; clear hK K))
      exact ⟨2 - (i + 1), by omega, [0, 1, 2, 19, 20], [], by decide, by intro q hq; exact absurd hq (Nat.not_lt_zero q), i + 1, hi2, rfl, rfl⟩

  · refine awp_exit ?_
    clear hK
    refine hK _ ?_; clear hK K
    (refine awp_reg_seq [2, 14] fun K hK => ?_; (repeat' ((refine al_r rfl fun K' hK' => ?_); (repeat (simp only [go_sem, simprocAttr, List.length_map])); (first | ((refine hK' _ _ ?_) <;> clear hK' K') | ((show AC _ _ (D.fn 43 _) _ _); refine acall_new (f := 43) Try.call43 hcg rfl ?_; rintro r obs' ⟨rfl, rfl⟩; (simp only [go_sem, simprocAttr, List.length_map]); refine hK' _ _ ?_; clear hK' K') | ((show AC _ _ (D.fn 43 _) _ _); refine acall_new (f := 43) Try.call43 hct rfl ?_; rintro r obs' ⟨rfl, rfl⟩; (simp only [go_sem, simprocAttr, List.length_map]); refine hK' _ _ ?_; clear hK' K')))); all_goals (refine al_nil ?_; (simp only [go_sem, simprocAttr, List.length_map]); refine hK _ ?_; clear hK K))
    (refine awp_frz [2, 14] [3, 0, 1, 2] (by decide) (by (simp; done)) ?_; simp only [go_sem, simprocAttr, List.length_map])
    (refine awp_reg_seq [14, 15, 16] fun K hK => ?_; (repeat' ((refine al_r rfl fun K' hK' => ?_); (repeat (simp only [go_sem, simprocAttr, List.length_map])); (first | ((refine hK' _ _ ?_) <;> clear hK' K') | ((show AC _ _ (D.fn 59 _) _ _); refine acall_m (f := 59) [0, 1, 2, 3] Try.call59 hw rfl rfl (by decide) (by simp) ?_; rintro r obs' ⟨rfl, rfl⟩; refine ⟨by simp, ?_⟩; (simp only [go_sem, simprocAttr, List.length_map]); refine hK' _ _ ?_; clear hK' K')))); all_goals (refine al_nil ?_; (simp only [go_sem, simprocAttr, List.length_map]); refine hK _ ?_; clear hK K))
    refine awp_seq_k fun K hK => ?_

    (refine awp_reg_seq [14, 15, 16, 47] fun K hK => ?_; (repeat' ((refine al_r rfl fun K' hK' => ?_); (repeat (simp only [go_sem, simprocAttr, bne_self_eq_false])); ((refine hK' _ _ ?_) <;> clear hK' K'))); all_goals (refine al_nil ?_; (simp only [go_sem, simprocAttr, bne_self_eq_false]); refine hK _ ?_; clear hK K))
    refine awp_if (_) rfl (fun hc => ?_) (fun hc => ?_)
    · cases hc
    · refine awp_skip ?_
      refine hK _ ?_; clear hK K
      refine awp_draw_seq (by kernel_rfl) [6, 7, 8, 9] fun K hK => ?_
      ((refine ah_r 0 rfl (by kernel_rfl) rfl fun K' hK' => ?_); (simp only [go_sem, simprocAttr, bne_self_eq_false]); ((refine hK' _ ?_); clear hK' K'))
      ((refine ah_r 4 rfl (by kernel_rfl) rfl fun K' hK' => ?_); (simp only [go_sem, simprocAttr, bne_self_eq_false]); ((refine hK' _ ?_); clear hK' K'))
      ((refine ah_r 8 rfl (by kernel_rfl) rfl fun K' hK' => ?_); (simp only [go_sem, simprocAttr, bne_self_eq_false]); ((refine hK' _ ?_); clear hK' K'))
      refine ah_two 1 5 rfl rfl (by kernel_rfl) ?_ ?_
      · ((repeat' ((refine al_r rfl fun K' hK' => ?_); (repeat (simp only [go_sem, simprocAttr, bne_self_eq_false])); ((refine hK' _ _ ?_) <;> clear hK' K'))); all_goals refine al_nil ?_)
        ((refine ah_r 2 rfl (by kernel_rfl) rfl fun K' hK' => ?_); (simp only [go_sem, simprocAttr, bne_self_eq_false]); ((refine hK' _ ?_); clear hK' K'))
        refine ah_two 3 5 rfl rfl (by kernel_rfl) ?_ ?_
        · ((repeat' ((refine al_r rfl fun K' hK' => ?_); (repeat (simp only [go_sem, simprocAttr, bne_self_eq_false])); ((refine hK' _ _ ?_) <;> clear hK' K'))); all_goals refine al_nil ?_)
          ((refine ah_r 9 rfl (by kernel_rfl) rfl fun K' hK' => ?_); (simp only [go_sem, simprocAttr, bne_self_eq_false]); ((refine hK' _ ?_); clear hK' K'))
          (refine ah_one 5 rfl (by kernel_rfl) ?_; (repeat' ((refine al_r rfl fun K' hK' => ?_); (repeat (simp only [go_sem, simprocAttr, bne_self_eq_false])); ((refine hK' _ _ ?_) <;> clear hK' K'))); all_goals refine al_nil ?_)
          ((refine ah_r 6 rfl (by kernel_rfl) rfl fun K' hK' => ?_); (simp only [go_sem, simprocAttr, bne_self_eq_false]); ((refine hK' _ ?_); clear hK' K'))
          (refine ah_one 7 rfl (by kernel_rfl) ?_; (repeat' ((refine al_r rfl fun K' hK' => ?_); (repeat (simp only [go_sem, simprocAttr, bne_self_eq_false])); ((refine hK' _ _ ?_) <;> clear hK' K'))); all_goals refine al_nil ?_)
          ((refine ah_r 10 rfl (by kernel_rfl) rfl fun K' hK' => ?_); (simp only [go_sem, simprocAttr, bne_self_eq_false]); ((refine hK' _ ?_); clear hK' K'))
          ((refine ah_r 11 rfl (by kernel_rfl) rfl fun K' hK' => ?_); (simp only [go_sem, simprocAttr, bne_self_eq_false]); ((refine hK' _ ?_); clear hK' K'))
          ((refine ah_r 12 rfl (by kernel_rfl) rfl fun K' hK' => ?_); (simp only [go_sem, simprocAttr, bne_self_eq_false]); ((refine hK' _ ?_); clear hK' K'))
          (refine ah_done (by kernel_rfl) ?_; (simp only [go_sem, simprocAttr, bne_self_eq_false]); refine hK _ ?_; clear hK K)
          refine awp_ret (hR _ _ [1, 4] (.inl rfl) rfl (by decide) (by simp only [List.length_cons, List.length_nil]; decide) ?_)
          refine ⟨?_, ?_⟩ <;> simp only [go_sem, simprocAttr, bne_self_eq_false]
        · ((repeat' ((refine al_r rfl fun K' hK' => ?_); (repeat (simp only [go_sem, simprocAttr, bne_self_eq_false])); ((refine hK' _ _ ?_) <;> clear hK' K'))); all_goals refine al_nil ?_)
          ((refine ah_r 6 rfl (by kernel_rfl) rfl fun K' hK' => ?_); (simp only [go_sem, simprocAttr, bne_self_eq_false]); ((refine hK' _ ?_); clear hK' K'))
          refine ah_two 3 7 rfl rfl (by kernel_rfl) ?_ ?_
          · ((repeat' ((refine al_r rfl fun K' hK' => ?_); (repeat (simp only [go_sem, simprocAttr, bne_self_eq_false])); ((refine hK' _ _ ?_) <;> clear hK' K'))); all_goals refine al_nil ?_)
            ((refine ah_r 9 rfl (by kernel_rfl) rfl fun K' hK' => ?_); (simp only [go_sem, simprocAttr, bne_self_eq_false]); ((refine hK' _ ?_); clear hK' K'))
            (refine ah_one 7 rfl (by kernel_rfl) ?_; (repeat' ((refine al_r rfl fun K' hK' => ?_); (repeat (simp only [go_sem, simprocAttr, bne_self_eq_false])); ((refine hK' _ _ ?_) <;> clear hK' K'))); all_goals refine al_nil ?_)
            ((refine ah_r 10 rfl (by kernel_rfl) rfl fun K' hK' => ?_); (simp only [go_sem, simprocAttr, bne_self_eq_false]); ((refine hK' _ ?_); clear hK' K'))
            ((refine ah_r 11 rfl (by kernel_rfl) rfl fun K' hK' => ?_); (simp only [go_sem, simprocAttr, bne_self_eq_false]); ((refine hK' _ ?_); clear hK' K'))
            ((refine ah_r 12 rfl (by kernel_rfl) rfl fun K' hK' => ?_); (simp only [go_sem, simprocAttr, bne_self_eq_false]); ((refine hK' _ ?_); clear hK' K'))
            (refine ah_done (by kernel_rfl) ?_; (simp only [go_sem, simprocAttr, bne_self_eq_false]); refine hK _ ?_; clear hK K)
            refine awp_ret (hR _ _ [1, 4] (.inl rfl) rfl (by decide) (by simp only [List.length_cons, List.length_nil]; decide) ?_)
            refine ⟨?_, ?_⟩ <;> simp only [go_sem, simprocAttr, bne_self_eq_false]
          · ((repeat' ((refine al_r rfl fun K' hK' => ?_); (repeat (simp only [go_sem, simprocAttr, bne_self_eq_false])); ((refine hK' _ _ ?_) <;> clear hK' K'))); all_goals refine al_nil ?_)
            (refine ah_one 3 rfl (by kernel_rfl) ?_; (repeat' ((refine al_r rfl fun K' hK' => ?_); (repeat (simp only [go_sem, simprocAttr, bne_self_eq_false])); ((refine hK' _ _ ?_) <;> clear hK' K'))); all_goals refine al_nil ?_)
            ((refine ah_r 9 rfl (by kernel_rfl) rfl fun K' hK' => ?_); (simp only [go_sem, simprocAttr, bne_self_eq_false]); ((refine hK' _ ?_); clear hK' K'))
            ((refine ah_r 10 rfl (by kernel_rfl) rfl fun K' hK' => ?_); (simp only [go_sem, simprocAttr, bne_self_eq_false]); ((refine hK' _ ?_); clear hK' K'))
            ((refine ah_r 11 rfl (by kernel_rfl) rfl fun K' hK' => ?_); (simp only [go_sem, simprocAttr, bne_self_eq_false]); ((refine hK' _ ?_); clear hK' K'))
            ((refine ah_r 12 rfl (by kernel_rfl) rfl fun K' hK' => ?_); (simp only [go_sem, simprocAttr, bne_self_eq_false]); ((refine hK' _ ?_); clear hK' K'))
            (refine ah_done (by kernel_rfl) ?_; (simp only [go_sem, simprocAttr, bne_self_eq_false]); refine hK _ ?_; clear hK K)
            refine awp_ret (hR _ _ [1, 4] (.inl rfl) rfl (by decide) (by simp only [List.length_cons, List.length_nil]; decide) ?_)
            refine ⟨?_, ?_⟩ <;> simp only [go_sem, simprocAttr, bne_self_eq_false]
      · ((repeat' ((refine al_r rfl fun K' hK' => ?_); (repeat (simp only [go_sem, simprocAttr, bne_self_eq_false])); ((refine hK' _ _ ?_) <;> clear hK' K'))); all_goals refine al_nil ?_)
        ((refine ah_r 6 rfl (by kernel_rfl) rfl fun K' hK' => ?_); (simp only [go_sem, simprocAttr, bne_self_eq_false]); ((refine hK' _ ?_); clear hK' K'))
        refine ah_two 1 7 rfl rfl (by kernel_rfl) ?_ ?_
        · ((repeat' ((refine al_r rfl fun K' hK' => ?_); (repeat (simp only [go_sem, simprocAttr, bne_self_eq_false])); ((refine hK' _ _ ?_) <;> clear hK' K'))); all_goals refine al_nil ?_)
          ((refine ah_r 2 rfl (by kernel_rfl) rfl fun K' hK' => ?_); (simp only [go_sem, simprocAttr, bne_self_eq_false]); ((refine hK' _ ?_); clear hK' K'))
          refine ah_two 3 7 rfl rfl (by kernel_rfl) ?_ ?_
          · ((repeat' ((refine al_r rfl fun K' hK' => ?_); (repeat (simp only [go_sem, simprocAttr, bne_self_eq_false])); ((refine hK' _ _ ?_) <;> clear hK' K'))); all_goals refine al_nil ?_)
            ((refine ah_r 9 rfl (by kernel_rfl) rfl fun K' hK' => ?_); (simp only [go_sem, simprocAttr, bne_self_eq_false]); ((refine hK' _ ?_); clear hK' K'))
            (refine ah_one 7 rfl (by kernel_rfl) ?_; (repeat' ((refine al_r rfl fun K' hK' => ?_); (repeat (simp only [go_sem, simprocAttr, bne_self_eq_false])); ((refine hK' _ _ ?_) <;> clear hK' K'))); all_goals refine al_nil ?_)
            ((refine ah_r 10 rfl (by kernel_rfl) rfl fun K' hK' => ?_); (simp only [go_sem, simprocAttr, bne_self_eq_false]); ((refine hK' _ ?_); clear hK' K'))
            ((refine ah_r 11 rfl (by kernel_rfl) rfl fun K' hK' => ?_); (simp only [go_sem, simprocAttr, bne_self_eq_false]); ((refine hK' _ ?_); clear hK' K'))
            ((refine ah_r 12 rfl (by kernel_rfl) rfl fun K' hK' => ?_); (simp only [go_sem, simprocAttr, bne_self_eq_false]); ((refine hK' _ ?_); clear hK' K'))
            (refine ah_done (by kernel_rfl) ?_; (simp only [go_sem, simprocAttr, bne_self_eq_false]); refine hK _ ?_; clear hK K)
            refine awp_ret (hR _ _ [1, 4] (.inl rfl) rfl (by decide) (by simp only [List.length_cons, List.length_nil]; decide) ?_)
            refine ⟨?_, ?_⟩ <;> simp only [go_sem, simprocAttr, bne_self_eq_false]
          · ((repeat' ((refine al_r rfl fun K' hK' => ?_); (repeat (simp only [go_sem, simprocAttr, bne_self_eq_false])); ((refine hK' _ _ ?_) <;> clear hK' K'))); all_goals refine al_nil ?_)
            (refine ah_one 3 rfl (by kernel_rfl) ?_; (repeat' ((refine al_r rfl fun K' hK' => ?_); (repeat (simp only [go_sem, simprocAttr, bne_self_eq_false])); ((refine hK' _ _ ?_) <;> clear hK' K'))); all_goals refine al_nil ?_)
            ((refine ah_r 9 rfl (by kernel_rfl) rfl fun K' hK' => ?_); (simp only [go_sem, simprocAttr, bne_self_eq_false]); ((refine hK' _ ?_); clear hK' K'))
            ((refine ah_r 10 rfl (by kernel_rfl) rfl fun K' hK' => ?_); (simp only [go_sem, simprocAttr, bne_self_eq_false]); ((refine hK' _ ?_); clear hK' K'))
            ((refine ah_r 11 rfl (by kernel_rfl) rfl fun K' hK' => ?_); (simp only [go_sem, simprocAttr, bne_self_eq_false]); ((refine hK' _ ?_); clear hK' K'))
            ((refine ah_r 12 rfl (by kernel_rfl) rfl fun K' hK' => ?_); (simp only [go_sem, simprocAttr, bne_self_eq_false]); ((refine hK' _ ?_); clear hK' K'))
            (refine ah_done (by kernel_rfl) ?_; (simp only [go_sem, simprocAttr, bne_self_eq_false]); refine hK _ ?_; clear hK K)
            refine awp_ret (hR _ _ [1, 4] (.inl rfl) rfl (by decide) (by simp only [List.length_cons, List.length_nil]; decide) ?_)
            refine ⟨?_, ?_⟩ <;> simp only [go_sem, simprocAttr, bne_self_eq_false]
        · ((repeat' ((refine al_r rfl fun K' hK' => ?_); (repeat (simp only [go_sem, simprocAttr, bne_self_eq_false])); ((refine hK' _ _ ?_) <;> clear hK' K'))); all_goals refine al_nil ?_)
          (refine ah_one 1 rfl (by kernel_rfl) ?_; (repeat' ((refine al_r rfl fun K' hK' => ?_); (repeat (simp only [go_sem, simprocAttr, bne_self_eq_false])); ((refine hK' _ _ ?_) <;> clear hK' K'))); all_goals refine al_nil ?_)
          ((refine ah_r 2 rfl (by kernel_rfl) rfl fun K' hK' => ?_); (simp only [go_sem, simprocAttr, bne_self_eq_false]); ((refine hK' _ ?_); clear hK' K'))
          (refine ah_one 3 rfl (by kernel_rfl) ?_; (repeat' ((refine al_r rfl fun K' hK' => ?_); (repeat (simp only [go_sem, simprocAttr, bne_self_eq_false])); ((refine hK' _ _ ?_) <;> clear hK' K'))); all_goals refine al_nil ?_)
          ((refine ah_r 9 rfl (by kernel_rfl) rfl fun K' hK' => ?_); (simp only [go_sem, simprocAttr, bne_self_eq_false]); ((refine hK' _ ?_); clear hK' K'))
          ((refine ah_r 10 rfl (by kernel_rfl) rfl fun K' hK' => ?_); (simp only [go_sem, simprocAttr, bne_self_eq_false]); ((refine hK' _ ?_); clear hK' K'))
          ((refine ah_r 11 rfl (by kernel_rfl) rfl fun K' hK' => ?_); (simp only [go_sem, simprocAttr, bne_self_eq_false]); ((refine hK' _ ?_); clear hK' K'))
          ((refine ah_r 12 rfl (by kernel_rfl) rfl fun K' hK' => ?_); (simp only [go_sem, simprocAttr, bne_self_eq_false]); ((refine hK' _ ?_); clear hK' K'))
          (refine ah_done (by kernel_rfl) ?_; (simp only [go_sem, simprocAttr, bne_self_eq_false]); refine hK _ ?_; clear hK K)
          refine awp_ret (hR _ _ [1, 4] (.inl rfl) rfl (by decide) (by simp only [List.length_cons, List.length_nil]; decide) ?_)
          refine ⟨?_, ?_⟩ <;> simp only [go_sem, simprocAttr, bne_self_eq_false]
      skip


end Go.Proofs.Ytagphggcdmjlpaa.P

/- What Over copies, in plain words. -/
namespace Go.Proofs.Ytagphggcdmjlpaa.P
open Go.Ab Go.Proofs.Ytagphggcdmjlpaa.T

/-- What a word stands for in the new heap. -/
def phiK (mv : List (Int × Int)) (w : Int) : Int := if (placeS w).2.1 then (match lk mv (placeS w).1 with | some x => x | none => w) else w
def KnownK (mv : List (Int × Int)) (w : Int) : Prop := (placeS w).2.2 = 0 ∧ ((placeS w).2.1 = true → ∃ x, lk mv (placeS w).1 = some x)
def SubK (mv mv' : List (Int × Int)) : Prop := ∀ a t, lk mv a = some t → lk mv' a = some t

theorem phiK_some {mv : List (Int × Int)} {w x : Int} (h1 : (placeS w).2.1 = true) (h2 : lk mv (placeS w).1 = some x) : phiK mv w = x := by
  unfold phiK; rw [if_pos h1, h2]
theorem phiK_not {mv : List (Int × Int)} {w : Int} (h1 : (placeS w).2.1 = false) : phiK mv w = w := by
  unfold phiK; rw [if_neg (by rw [h1]; exact Bool.false_ne_true)]
/-- What is reached from a word, through objects that are read. -/
inductive ReachK (g : List Int) : Int → Int → Prop where
  | here {w : Int} : (placeS w).2.1 = true → ReachK g w (placeS w).1
  | part {w p b : Int} {o : Obj} : (placeS w).2.1 = true → atS g (placeS w).1 = (o, 0) → p ∈ o.parts → ReachK g p b → ReachK g w b

/-- One place has another one behind it. -/
inductive Behind (g : List Int) : Int → Int → Prop where
  | one {a p : Int} {o : Obj} : atS g a = (o, 0) → p ∈ o.parts → (placeS p).2.1 = true → Behind g a (placeS p).1
  | more {a p b : Int} {o : Obj} : atS g a = (o, 0) → p ∈ o.parts → (placeS p).2.1 = true → Behind g (placeS p).1 b → Behind g a b

theorem Behind.trans {g : List Int} {a b c : Int} (h1 : Behind g a b) (h2 : Behind g b c) : Behind g a c := by
  induction h1 with
  | one ho hp hi => exact .more ho hp hi h2
  | more ho hp hi _ ih => exact .more ho hp hi (ih h2)

end Go.Proofs.Ytagphggcdmjlpaa.P

/- What Over copies: the invariant goes on, whatever word is carried over. -/
namespace Go.Proofs.Ytagphggcdmjlpaa.P
open Go.Ab Go.Proofs.Ytagphggcdmjlpaa.T

theorem lk_key : ∀ {m : List (Int × Int)} {a : Int}, a ∈ m.map Prod.fst → ∃ x, lk m a = some x
  | [], _, h => by simp at h
  | (c, d) :: l, a, h => by
    have e2 : lk ((c, d) :: l) a = if c = a then some d else lk l a := rfl
    rw [e2]
    by_cases hc : c = a
    · exact ⟨d, if_pos hc⟩
    · rw [if_neg hc]
      rw [List.map_cons, List.mem_cons] at h
      rcases h with h | h
      · exact absurd h.symm hc
      · exact lk_key h

theorem SubK.trans {a b c : List (Int × Int)} (h : SubK a b) (h' : SubK b c) : SubK a c := fun x t e => h' x t (h x t e)

end Go.Proofs.Ytagphggcdmjlpaa.P

/- What Alike finds, in plain words: it goes through all that was copied, each once. -/
namespace Go.Proofs.Ytagphggcdmjlpaa.P
open Go.Ab Go.Proofs.Ytagphggcdmjlpaa.T

theorem nodup_len : ∀ {A B : List Int}, A.Nodup → (∀ x, x ∈ A → x ∈ B) → A.length ≤ B.length
  | [], _, _, _ => Nat.zero_le _
  | a :: A, B, h, hs => by
    obtain ⟨h1, h2⟩ := List.nodup_cons.1 h
    have ha := hs a List.mem_cons_self
    have := nodup_len (A := A) (B := B.erase a) h2 fun x hx => (List.mem_erase_of_ne (fun e : x = a => h1 (by rw [← e]; exact hx))).2 (hs x (List.mem_cons_of_mem _ hx))
    rw [List.length_erase_of_mem ha] at this
    have hp := List.length_pos_of_mem ha
    simp only [List.length_cons]
    omega

theorem lk_mem : ∀ {m : List (Int × Int)} {a x : Int}, lk m a = some x → (a, x) ∈ m
  | (c, d) :: l, a, x, h => by
    have e2 : lk ((c, d) :: l) a = if c = a then some d else lk l a := rfl
    rw [e2] at h
    split at h
    · rename_i hc; cases h; subst hc; exact List.mem_cons_self
    · exact List.mem_cons_of_mem _ (lk_mem h)

theorem mem_lk : ∀ {m : List (Int × Int)} {a x : Int}, (m.map Prod.fst).Nodup → (a, x) ∈ m → lk m a = some x
  | (c, d) :: l, a, x, hn, h => by
    have e2 : lk ((c, d) :: l) a = if c = a then some d else lk l a := rfl
    rw [e2]
    obtain ⟨h1, h2⟩ := List.nodup_cons.1 hn
    rcases List.mem_cons.1 h with h | h
    · cases h; exact if_pos rfl
    · rw [if_neg (fun e => h1 (by
        show c ∈ l.map Prod.fst
        rw [e]
        exact List.mem_map.2 ⟨_, h, rfl⟩))]
      exact mem_lk h2 h

/-- A heap's part was copied to another. -/
structure ShrK (g b : List Int) (mv : List (Int × Int)) (w0 : Int) : Prop where
  g4 : g.length ≤ 4000
  go : ∀ w, w ∈ g → WordOk w
  b4 : b.length ≤ 4000
  ex : ∃ T, Placed T ∧ b = flat T ∧ ∀ a x, lk mv a = some x → ∃ (t : Nat) (q o : Obj), q ∈ T ∧ q.at_ = t ∧ t ≤ 4000 ∧ x = (wordS 4 t).1 ∧ atS g a = (o, 0) ∧ q.kind = o.kind ∧ q.num = o.num ∧ q.text = o.text ∧ q.parts = o.parts.map (phiK mv) ∧ ∀ p, p ∈ o.parts → KnownK mv p
  inj : ∀ a b x, lk mv a = some x → lk mv b = some x → a = b
  nd : (mv.map Prod.fst).Nodup
  kn : KnownK mv w0
  rch : ∀ a x, lk mv a = some x → ReachK g w0 a

/-- Where a word's object went. -/
theorem ShrK.to {g b : List Int} {mv : List (Int × Int)} {w0 : Int} (h : ShrK g b mv w0) {a x : Int} (hl : lk mv a = some x) : ∃ (t : Nat) (q o : Obj), t ≤ 4000 ∧ x = (wordS 4 t).1 ∧ atS g a = (o, 0) ∧ atS b t = (q, 0) ∧
    q.kind = o.kind ∧ q.num = o.num ∧ q.text = o.text ∧ q.parts = o.parts.map (phiK mv) ∧ ∀ p, p ∈ o.parts → KnownK mv p := by
  obtain ⟨T, h1, h2, h3⟩ := h.ex
  obtain ⟨t, q, o, q1, q2, q3, q4, q5, q6, q7, q8, q9, q10⟩ := h3 a x hl
  refine ⟨t, q, o, q3, q4, q5, ?_, q6, q7, q8, q9, q10⟩
  rw [h2, ← q2]
  exact at_placed h1 q1

/-- What Alike has, at each round's head. -/
structure AlInv (g : List Int) (mv : List (Int × Int)) (w0 : Int) (L : List Int) (M : List (Int × Int)) : Prop where
  nd : (M.map Prod.fst).Nodup
  nd2 : (M.map Prod.snd).Nodup
  sub : ∀ a t, (a, t) ∈ M → ∃ x, lk mv a = some x ∧ (placeS x).1 = t
  kn : ∀ w, w ∈ L → KnownK mv w
  cl : ∀ a t o, (a, t) ∈ M → atS g a = (o, 0) → ∀ p, p ∈ o.parts → (placeS p).2.1 = true → (placeS p).1 ∈ M.map Prod.fst ∨ p ∈ L
  rt : (placeS w0).2.1 = true → (placeS w0).1 ∈ M.map Prod.fst ∨ w0 ∈ L

theorem AlInv.keys {g : List Int} {mv : List (Int × Int)} {w0 : Int} {L : List Int} {M : List (Int × Int)} (hi : AlInv g mv w0 L M) : ∀ x, x ∈ M.map Prod.fst → x ∈ mv.map Prod.fst := fun x hx => by
  obtain ⟨⟨a, t⟩, hm, rfl⟩ := List.mem_map.1 hx
  obtain ⟨y, hy, _⟩ := hi.sub a t hm
  exact List.mem_map.2 ⟨_, lk_mem hy, rfl⟩

/-- A word that names no place, or one that was met. -/
theorem AlInv.skip {g : List Int} {mv : List (Int × Int)} {w0 w : Int} {L : List Int} {M : List (Int × Int)} (hi : AlInv g mv w0 (w :: L) M) (hw : (placeS w).2.1 = true → (placeS w).1 ∈ M.map Prod.fst) : AlInv g mv w0 L M where
  nd := hi.nd
  nd2 := hi.nd2
  sub := hi.sub
  kn := fun x hx => hi.kn x (List.mem_cons_of_mem _ hx)
  cl := fun a t o h1 h2 p hp hpi => by
    rcases hi.cl a t o h1 h2 p hp hpi with h | h
    · exact .inl h
    · rcases List.mem_cons.1 h with rfl | h
      · exact .inl (hw hpi)
      · exact .inr h
  rt := fun h0 => by
    rcases hi.rt h0 with h | h
    · exact .inl h
    · rcases List.mem_cons.1 h with rfl | h
      · exact .inl (hw h0)
      · exact .inr h

theorem place_inj {t u : Nat} (ht : t ≤ 4000) (hu : u ≤ 4000) (h : (placeS (wordS 4 (t : Int)).1).1 = (placeS (wordS 4 (u : Int)).1).1) : t = u := by
  rw [place_word ht, place_word hu] at h
  simp only at h
  omega

/-- A new place. -/
theorem AlInv.new {g b : List Int} {mv : List (Int × Int)} {w0 w x : Int} {L : List Int} {M : List (Int × Int)} {o : Obj} (hs : ShrK g b mv w0) (hi : AlInv g mv w0 (w :: L) M) (hw : (placeS w).2.1 = true) (hl : lk mv (placeS w).1 = some x)
    (ho : atS g (placeS w).1 = (o, 0)) (hn : (placeS w).1 ∉ M.map Prod.fst) : AlInv g mv w0 (L ++ o.parts) (M ++ [((placeS w).1, (placeS x).1)]) ∧ (placeS x).1 ∉ M.map Prod.snd ∧ M.length + 1 ≤ mv.length := by
  have hx2 : (placeS x).1 ∉ M.map Prod.snd := fun hm => by
    obtain ⟨⟨a, t⟩, hm, e⟩ := List.mem_map.1 hm
    simp only at e
    obtain ⟨y, hy, e2⟩ := hi.sub a t hm
    obtain ⟨t1, _, _, u1, u2, _⟩ := hs.to hl
    obtain ⟨t2, _, _, v1, v2, _⟩ := hs.to hy
    rw [e, u2] at e2
    rw [v2] at e2
    have := place_inj v1 u1 e2
    subst this
    rw [← u2] at v2
    rw [v2] at hy
    have := hs.inj _ _ _ hy hl
    rw [this] at hm
    exact hn (List.mem_map.2 ⟨_, hm, rfl⟩)
  have hi2 : AlInv g mv w0 (L ++ o.parts) (M ++ [((placeS w).1, (placeS x).1)]) := by
    refine ⟨?_, ?_, fun a t hm => ?_, fun z hz => ?_, fun a t o' hm ho' p hp hpi => ?_, fun h0 => ?_⟩
    · rw [List.map_append, List.nodup_append]
      refine ⟨hi.nd, by simp, fun c hc d hd => ?_⟩
      simp at hd
      subst hd
      intro e
      subst e
      exact hn hc
    · rw [List.map_append, List.nodup_append]
      refine ⟨hi.nd2, by simp, fun c hc d hd => ?_⟩
      simp at hd
      subst hd
      intro e
      subst e
      exact hx2 hc
    · rcases List.mem_append.1 hm with hm | hm
      · exact hi.sub a t hm
      · rcases List.mem_singleton.1 hm with h
        cases h
        exact ⟨x, hl, rfl⟩
    · rcases List.mem_append.1 hz with hz | hz
      · exact hi.kn z (List.mem_cons_of_mem _ hz)
      · obtain ⟨_, _, o2, _, _, e, _, _, _, _, _, hk⟩ := hs.to hl
        rw [ho] at e
        cases (Prod.mk.inj e).1
        exact hk z hz
    · rcases List.mem_append.1 hm with hm | hm
      · rcases hi.cl a t o' hm ho' p hp hpi with h | h
        · exact .inl (by rw [List.map_append]; exact List.mem_append_left _ h)
        · rcases List.mem_cons.1 h with rfl | h
          · exact .inl (by rw [List.map_append]; exact List.mem_append_right _ (by simp))
          · exact .inr (List.mem_append_left _ h)
      · rcases List.mem_singleton.1 hm with h
        cases h
        rw [ho] at ho'
        cases (Prod.mk.inj ho').1
        exact .inr (List.mem_append_right _ hp)
    · rcases hi.rt h0 with h | h
      · exact .inl (by rw [List.map_append]; exact List.mem_append_left _ h)
      · rcases List.mem_cons.1 h with rfl | h
        · exact .inl (by rw [List.map_append]; exact List.mem_append_right _ (by simp))
        · exact .inr (List.mem_append_left _ h)
  refine ⟨hi2, hx2, ?_⟩
  have := nodup_len hi2.nd hi2.keys
  simpa using this

/-- All was met. -/
theorem AlInv.all {g b : List Int} {mv : List (Int × Int)} {w0 : Int} {M : List (Int × Int)} (hs : ShrK g b mv w0) (hi : AlInv g mv w0 [] M) : M.length = mv.length := by
  have key : ∀ w a, ReachK g w a → (placeS w).1 ∈ M.map Prod.fst → a ∈ M.map Prod.fst := by
    intro w a hr
    induction hr with
    | here _ => exact id
    | @part w p c o hw ho hp hr ih =>
      intro hm
      obtain ⟨⟨a', t⟩, hm, e⟩ := List.mem_map.1 hm
      simp only at e
      subst e
      refine ih ?_
      have hpi : (placeS p).2.1 = true := by cases hr <;> assumption
      rcases hi.cl _ t o hm ho p hp hpi with h | h
      · exact h
      · cases h
  have hsub : ∀ x, x ∈ mv.map Prod.fst → x ∈ M.map Prod.fst := fun x hx => by
    obtain ⟨y, hy⟩ := lk_key hx
    have hr := hs.rch x y hy
    refine key w0 x hr ?_
    have h0 : (placeS w0).2.1 = true := by cases hr <;> assumption
    rcases hi.rt h0 with h | h
    · exact h
    · cases h
  have h1 := nodup_len hi.nd hi.keys
  have h2 := nodup_len hs.nd hsub
  simp only [List.length_map] at h1 h2
  omega

theorem lk_some {M : List (Int × Int)} {a : Int} (h : a ∈ M.map Prod.fst) : ∃ t, lk M a = some t ∧ (a, t) ∈ M := by
  obtain ⟨t, ht⟩ := lk_key h
  exact ⟨t, ht, lk_mem ht⟩

theorem lk_not : ∀ {M : List (Int × Int)} {a : Int}, a ∉ M.map Prod.fst → lk M a = none
  | [], _, _ => rfl
  | (c, d) :: l, a, h => by
    have e2 : lk ((c, d) :: l) a = if c = a then some d else lk l a := rfl
    rw [List.map_cons, List.mem_cons, not_or] at h
    rw [e2, if_neg (fun e => h.1 e.symm)]
    exact lk_not h.2

/-- The map the other way. -/
def backM (M : List (Int × Int)) : List (Int × Int) := M.map fun e => (e.2, e.1)
theorem backM_fst (M : List (Int × Int)) : (backM M).map Prod.fst = M.map Prod.snd := by
  unfold backM; rw [List.map_map]; rfl
theorem back_old {M : List (Int × Int)} {a t : Int} (hn : (M.map Prod.snd).Nodup) (h : (a, t) ∈ M) : lk (backM M) t = some a :=
  mem_lk (by rw [backM_fst]; exact hn) (List.mem_map.2 ⟨(a, t), h, rfl⟩)
theorem back_new {M : List (Int × Int)} {t : Int} (h : t ∉ M.map Prod.snd) : lk (backM M) t = none := lk_not (by rw [backM_fst]; exact h)

/-- What a round of Alike comes to, told by the word at the queue's head. -/
theorem AlInv.round {g b : List Int} {mv : List (Int × Int)} {w0 w : Int} {L : List Int} {M : List (Int × Int)} (hs : ShrK g b mv w0) (hi : AlInv g mv w0 (w :: L) M) :
    ((placeS w).2.1 = false ∧ (placeS w).2.2 = 0 ∧ phiK mv w = w ∧ AlInv g mv w0 L M) ∨
    (∃ t : Nat, t ≤ 4000 ∧ (placeS w).2.1 = true ∧ (placeS w).2.2 = 0 ∧ phiK mv w = (wordS 4 t).1 ∧ lk M (placeS w).1 = some (t : Int) ∧ lk (backM M) t = some (placeS w).1 ∧ AlInv g mv w0 L M) ∨
    ∃ (t : Nat) (o q : Obj), t ≤ 4000 ∧ (placeS w).2.1 = true ∧ (placeS w).2.2 = 0 ∧ phiK mv w = (wordS 4 t).1 ∧ lk M (placeS w).1 = none ∧ lk (backM M) t = none ∧ atS g (placeS w).1 = (o, 0) ∧ atS b t = (q, 0) ∧ q.kind = o.kind ∧ q.num = o.num ∧ q.text = o.text ∧ q.parts = o.parts.map (phiK mv) ∧
      M.length + 1 ≤ mv.length ∧ AlInv g mv w0 (L ++ o.parts) (M ++ [((placeS w).1, (t : Int))]) := by
  obtain ⟨hk0, hk1⟩ := hi.kn w List.mem_cons_self
  cases hw : (placeS w).2.1 with
  | false => exact .inl ⟨rfl, hk0, phiK_not hw, hi.skip fun h => by rw [hw] at h; cases h⟩
  | true =>
    obtain ⟨x, hx⟩ := hk1 hw
    obtain ⟨t, q, o, t1, t2, t3, t4, t5, t6, t7, t8, t9⟩ := hs.to hx
    have hph : phiK mv w = (wordS 4 t).1 := by rw [phiK_some hw hx, t2]
    have hpx : (placeS x).1 = (t : Int) := by rw [t2, place_word t1]
    by_cases hm : (placeS w).1 ∈ M.map Prod.fst
    · obtain ⟨u, hu, hum⟩ := lk_some hm
      obtain ⟨y, hy, e⟩ := hi.sub _ _ hum
      rw [hx] at hy
      cases hy
      rw [hpx] at e
      subst e
      exact .inr (.inl ⟨t, t1, rfl, hk0, hph, hu, back_old hi.nd2 hum, hi.skip fun _ => hm⟩)
    · obtain ⟨h1, h2, h3⟩ := hi.new hs hw hx t3 hm
      rw [hpx] at h1 h2
      exact .inr (.inr ⟨t, o, q, t1, rfl, hk0, hph, lk_not hm, back_new h2, t3, t4, t5, t6, t7, t8, h3, h1⟩)
end Go.Proofs.Ytagphggcdmjlpaa.P

/- Put and Over, their answers own rows, errors too: contracts. -/
namespace Go.Proofs.Ytagphggcdmjlpaa.P
open Go.Ab Go.Proofs.Ytagphggcdmjlpaa.T


theorem putE (h : List Int) (o : Obj) (hlen : h.length ≤ maxLen) (hg : (putS h o).2.2 ≠ 0) : ACalls Try.prog 17 [words h, objD o] [] (fun r obs' => r = .tup [.ref 0 0 0, iD (putS h o).2.1, iD (putS h o).2.2] ∧ obs' = [.row 1 []]) := by
  have hri := right o
  have hsm := right_small (o := o)
  obtain ⟨R0, hR0⟩ : ∃ R0, R0 = putS h o := ⟨_, rfl⟩
  have hv : R0 = if !rightS o then ([], 0, 1) else if decide ((h.length : Int) > 4000 - (roomN o.kind o.text.size o.parts.length : Int)) then ([], 0, 6) else (h ++ encW o, (h.length : Int), 0) := hR0
  rw [← hR0] at hg ⊢
  clear hR0
  generalize rightS o = r at hri hsm hv
  refine acallm_fn [4, 5, 6] Try.func17 rfl rfl Try.ntmps17 (by simp) (by simp) fun R hR => ?_
  (refine awp_reg_seq [0, 3] fun K hK => ?_; (repeat' ((refine al_r rfl fun K' hK' => ?_); (repeat (simp only [go_sem, simprocAttr, List.length_map])); ((refine hK' _ _ ?_) <;> clear hK' K'))); all_goals (refine al_nil ?_; (simp only [go_sem, simprocAttr, List.length_map]); refine hK _ ?_; clear hK K))
  (refine awp_frz [0, 3] [] (by decide) (by (simp; done)) ?_; simp only [go_sem, simprocAttr, List.length_map])
  refine awp_seq_k fun K hK => ?_
  refine awp_block ?_
  (refine awp_reg_seq [0, 3, 11] fun K hK => ?_; (repeat' ((refine al_r rfl fun K' hK' => ?_); (repeat (simp only [go_sem, simprocAttr, List.length_map])); (first | ((refine hK' _ _ ?_) <;> clear hK' K') | ((show AC _ _ (D.fn 52 _) _ _); refine acall_p (f := 52) (e := rfl) (hr := rfl) (k := hK' _ _ ?_) (hc := Try.call52) (h := hri); clear hK' K')))); all_goals (refine al_nil ?_; (simp only [go_sem, simprocAttr, List.length_map]); refine hK _ ?_; clear hK K))
  refine awp_if (_) rfl (fun hc => ?_) (fun hc => ?_)
  · (refine awp_reg_seq [4, 5, 6] fun K hK => ?_; (repeat' ((refine al_r rfl fun K' hK' => ?_); (repeat (simp only [go_sem, simprocAttr, List.length_map])); ((refine hK' _ _ ?_) <;> clear hK' K'))); all_goals (refine al_nil ?_; (simp only [go_sem, simprocAttr, List.length_map]); refine hK _ ?_; clear hK K))
    rw [if_pos hc] at hv
    refine awp_born 4 1 rfl ?_
    refine awp_ret (hR _ _ [0] (.inl rfl) rfl (by decide) (by simp only [List.length_cons, List.length_nil]; decide) ?_)
    refine ⟨?_, ?_⟩
    · (simp only [go_sem, simprocAttr, List.length_map, hv]; try rfl)
    · (simp only [go_sem, simprocAttr, List.length_map]; try rfl)
  · rw [if_neg (by rw [hc]; simp)] at hv
    obtain ⟨hs64, hp400⟩ := hsm (by simpa using hc)
    have hro := room o.kind o.text.size o.parts.length (by omega) (by omega)
    have hr1 : roomN o.kind o.text.size o.parts.length ≤ 500 := by
      unfold roomN
      split <;> omega
    have hw4 : IntKind.i64.wrap (4000 - (roomN o.kind o.text.size o.parts.length : Int)) = 4000 - (roomN o.kind o.text.size o.parts.length : Int) := by rw [Go.Ab.wrap_small (by omega) (by omega)]
    generalize roomN o.kind o.text.size o.parts.length = rm at *

    (refine awp_reg_seq [0, 3, 15] fun K hK => ?_; (repeat' ((refine al_r rfl fun K' hK' => ?_); (repeat (simp only [go_sem, simprocAttr, List.length_map, hw4])); (first | ((first | refine hK' _ _ ?_ | refine ⟨?_, hK' _ _ ?_⟩) <;> clear hK' K' <;> (first | (show alist _ _ _ _ _ _; skip) | (intro s hs; cases hs; done) | (simp; done))) | ((show AC _ _ (D.fn 51 _) _ _); refine acall_p (f := 51) (e := rfl) (hr := rfl) (k := hK' _ _ ?_) (hc := Try.call51) (h := hro); clear hK' K')))); all_goals (refine al_nil ?_; (simp only [go_sem, simprocAttr, List.length_map, hw4]); refine hK _ ?_; clear hK K))
    refine awp_if (decide ((h.length : Int) > 4000 - (rm : Int))) rfl (fun hc => ?_) (fun hc => ?_)
    · (refine awp_reg_seq [4, 5, 6] fun K hK => ?_; (repeat' ((refine al_r rfl fun K' hK' => ?_); (repeat (simp only [go_sem, simprocAttr, List.length_map, hw4])); ((refine hK' _ _ ?_) <;> clear hK' K'))); all_goals (refine al_nil ?_; (simp only [go_sem, simprocAttr, List.length_map, hw4]); refine hK _ ?_; clear hK K))
      rw [if_pos hc] at hv
      refine awp_born 4 1 rfl ?_
      refine awp_ret (hR _ _ [0] (.inl rfl) rfl (by decide) (by simp only [List.length_cons, List.length_nil]; decide) ?_)
      refine ⟨?_, ?_⟩
      · (simp only [go_sem, simprocAttr, List.length_map, hw4, hv]; try rfl)
      · (simp only [go_sem, simprocAttr, List.length_map, hw4]; try rfl)
    · exfalso
      rw [if_neg (by rw [hc]; simp)] at hv
      rw [hv] at hg
      exact hg rfl

theorem putW (h : List Int) (o : Obj) (hlen : h.length ≤ maxLen) : ∃ (l : List Int) (a e : Int), l.length ≤ 4000 ∧ ACalls Try.prog 17 [words h, objD o] [] (fun r obs' => r = .tup [.ref 0 0 l.length, iD a, iD e] ∧ obs' = [.row 1 (l.map wrow)]) := by
  by_cases hg : (putS h o).2.2 = 0
  · exact ⟨(putS h o).1, _, 0, putS_len2 hg, putO h o hlen hg⟩
  · exact ⟨[], _, _, by simp, putE h o hlen hg⟩


set_option maxRecDepth 100000 in
theorem overBadO (g t : List Int) (w : Int) (lg lt : List Obj) (hg4 : g.length ≤ 4000) (ht4 : t.length ≤ 4000) (hog : ACallP Try.prog 15 [words g] (.tup [objs lg, iD 0])) (hot : ACallP Try.prog 15 [words t] (.tup [objs lt, iD 0])) (x e : Int) (S : CT) (he : (e != 0) = true)
    (hw : ACalls Try.prog 59 [.ptr 0 0 0, wD w, iD 40] (cpA g (g, t, [])) (fun r obs' => r = .tup [wD x, iD e] ∧ obs' = cpB g S)) :
    ACalls Try.prog 27 [words g, words t, wD w] [] (fun r obs' => r = .tup [.ref 0 0 0, .ref 1 0 0, wD 0, iD e] ∧ obs' = [.row 1 [], .row 1 []]) := by
  have hcg := cloneH (g.map wrow) (wrow1 g) (by simp; omega)
  have hct := cloneH (t.map wrow) (wrow1 t) (by simp; omega)
  rw [List.length_map] at hcg hct
  refine acallm_fn [6, 7, 8, 9] Try.func27 rfl rfl Try.ntmps27 (by simp) (by simp) fun R hR => ?_
  (refine awp_reg_seq [0, 1, 2] fun K hK => ?_; (repeat' ((refine al_r rfl fun K' hK' => ?_); (repeat (simp only [go_sem, simprocAttr, he])); ((refine hK' _ _ ?_) <;> clear hK' K'))); all_goals (refine al_nil ?_; (simp only [go_sem, simprocAttr, he]); refine hK _ ?_; clear hK K))
  refine awp_seq_k fun K hK => ?_
  (refine awp_reg_seq [0, 1, 2, 19, 20] fun K hK => ?_; (repeat' ((refine al_r rfl fun K' hK' => ?_); (repeat (simp only [go_sem, simprocAttr, he])); ((refine hK' _ _ ?_) <;> clear hK' K'))); all_goals (refine al_nil ?_; (simp only [go_sem, simprocAttr, he]); refine hK _ ?_; clear hK K))
  refine awp_block ?_
  -- loop 0 head [0, 1, 2, 19, 20]
  refine awp_loop_cut (fun m s => ∃ i : Nat, i ≤ 2 ∧ m = 2 - i ∧ s = ⟨ofL [(0, words g), (1, words t), (2, wD w), (19, .agg [words g, words t]), (20, iD i)], [], 0⟩) ⟨_, 0, Nat.zero_le _, rfl, rfl⟩ ?_
  rintro m s ⟨i, hi, hm, rfl⟩
  (refine awp_reg_seq [0, 1, 2, 19, 20, 21] fun K hK => ?_; (repeat' ((refine al_r rfl fun K' hK' => ?_); (repeat (simp only [go_sem, simprocAttr, he])); ((refine hK' _ _ ?_) <;> clear hK' K'))); all_goals (refine al_nil ?_; (simp only [go_sem, simprocAttr, he]); refine hK _ ?_; clear hK K))
  refine awp_seq_k fun K hK => ?_
  refine awp_if (decide ((i : Int) < 2)) rfl (fun hc => ?_) (fun hc => ?_)
  · refine awp_skip ?_
    refine hK _ ?_; clear hK K
    refine awp_seq_k fun K hK => ?_
    refine awp_block ?_
    have hi2 : i < 2 := by simp at hc; omega
    obtain ⟨x, l, hget, hob⟩ : ∃ (x : List Int) (l : List Obj), ([words g, words t] : List D)[i]? = some (words x) ∧ ACallP Try.prog 15 [words x] (.tup [objs l, iD 0]) := by
      match i, hi2 with
      | 0, _ => exact ⟨g, lg, rfl, hog⟩
      | 1, _ => exact ⟨t, lt, rfl, hot⟩
    have hnn : (0 : Int) ≤ (i : Int) := Int.natCast_nonneg i
    have hi2' : (i : Int) < ((2 : Nat) : Int) := by omega
    have hnx : IntKind.i64.wrap ((i : Int) + 1) = ((i + 1 : Nat) : Int) := by rw [Go.Ab.wrap_small (by omega) (by omega)]; rfl

    (refine awp_reg_seq [0, 1, 2, 11, 19, 20] fun K hK => ?_; (repeat' ((refine al_r rfl fun K' hK' => ?_); (repeat (simp only [go_sem, simprocAttr, hget, hnn, hi2', hnx, Int.toNat_natCast, Nat.mul_one, bne_self_eq_false])); ((first | refine hK' _ _ ?_ | refine ⟨?_, hK' _ _ ?_⟩) <;> clear hK' K' <;> (first | (show alist _ _ _ _ _ _; skip) | assumption)))); all_goals (refine al_nil ?_; (simp only [go_sem, simprocAttr, hget, hnn, hi2', hnx, Int.toNat_natCast, Nat.mul_one, bne_self_eq_false]); refine hK _ ?_; clear hK K))
    (refine awp_reg_seq [0, 1, 2, 13, 19, 20] fun K hK => ?_; (repeat' ((refine al_r rfl fun K' hK' => ?_); (repeat (simp only [go_sem, simprocAttr, hget, hnn, hi2', hnx, Int.toNat_natCast, Nat.mul_one, bne_self_eq_false])); (first | ((refine hK' _ _ ?_) <;> clear hK' K') | ((show AC _ _ (D.fn 15 _) _ _); refine acall_p (f := 15) (e := rfl) (hr := rfl) (k := hK' _ _ ?_) (hc := Try.call15) (h := hob); clear hK' K')))); all_goals (refine al_nil ?_; (simp only [go_sem, simprocAttr, hget, hnn, hi2', hnx, Int.toNat_natCast, Nat.mul_one, bne_self_eq_false]); refine hK _ ?_; clear hK K))
    (refine awp_reg_seq [0, 1, 2, 13, 19, 20, 29] fun K hK => ?_; (repeat' ((refine al_r rfl fun K' hK' => ?_); (repeat (simp only [go_sem, simprocAttr, hget, hnn, hi2', hnx, Int.toNat_natCast, Nat.mul_one, bne_self_eq_false])); ((refine hK' _ _ ?_) <;> clear hK' K'))); all_goals (refine al_nil ?_; (simp only [go_sem, simprocAttr, hget, hnn, hi2', hnx, Int.toNat_natCast, Nat.mul_one, bne_self_eq_false]); refine hK _ ?_; clear hK K))
    refine awp_if (_) rfl (fun hc => ?_) (fun hc => ?_)
    · cases hc
    · refine awp_skip ?_
      refine hK _ ?_; clear hK K
      (refine awp_reg_end [0, 1, 2, 19, 20] fun K hK => ?_; (repeat' ((refine al_r rfl fun K' hK' => ?_); (repeat (simp only [go_sem, simprocAttr, hget, hnn, hi2', hnx, Int.toNat_natCast, Nat.mul_one, bne_self_eq_false])); ((refine hK' _ _ ?_) <;> clear hK' K'))); all_goals (refine al_nil ?_; (simp only [go_sem, simprocAttr, hget, hnn, hi2', hnx, Int.toNat_natCast, Nat.mul_one, bne_self_eq_false]); refine hK _ ?_; clear hK K))
      exact ⟨2 - (i + 1), by omega, [0, 1, 2, 19, 20], [], by decide, by intro q hq; exact absurd hq (Nat.not_lt_zero q), i + 1, hi2, rfl, rfl⟩

  · refine awp_exit ?_
    clear hK
    refine hK _ ?_; clear hK K
    (refine awp_reg_seq [2, 14] fun K hK => ?_; (repeat' ((refine al_r rfl fun K' hK' => ?_); (repeat (simp only [go_sem, simprocAttr, List.length_map])); (first | ((refine hK' _ _ ?_) <;> clear hK' K') | ((show AC _ _ (D.fn 43 _) _ _); refine acall_new (f := 43) Try.call43 hcg rfl ?_; rintro r obs' ⟨rfl, rfl⟩; (simp only [go_sem, simprocAttr, List.length_map]); refine hK' _ _ ?_; clear hK' K') | ((show AC _ _ (D.fn 43 _) _ _); refine acall_new (f := 43) Try.call43 hct rfl ?_; rintro r obs' ⟨rfl, rfl⟩; (simp only [go_sem, simprocAttr, List.length_map]); refine hK' _ _ ?_; clear hK' K')))); all_goals (refine al_nil ?_; (simp only [go_sem, simprocAttr, List.length_map]); refine hK _ ?_; clear hK K))
    (refine awp_frz [2, 14] [3, 0, 1, 2] (by decide) (by (simp; done)) ?_; simp only [go_sem, simprocAttr, List.length_map])
    (refine awp_reg_seq [14, 15, 16] fun K hK => ?_; (repeat' ((refine al_r rfl fun K' hK' => ?_); (repeat (simp only [go_sem, simprocAttr, List.length_map])); (first | ((refine hK' _ _ ?_) <;> clear hK' K') | ((show AC _ _ (D.fn 59 _) _ _); refine acall_m (f := 59) [0, 1, 2, 3] Try.call59 hw rfl rfl (by decide) (by simp) ?_; rintro r obs' ⟨rfl, rfl⟩; refine ⟨by simp, ?_⟩; (simp only [go_sem, simprocAttr, List.length_map]); refine hK' _ _ ?_; clear hK' K')))); all_goals (refine al_nil ?_; (simp only [go_sem, simprocAttr, List.length_map]); refine hK _ ?_; clear hK K))
    refine awp_seq_k fun K hK => ?_

    (refine awp_reg_seq [14, 15, 16, 47] fun K hK => ?_; (repeat' ((refine al_r rfl fun K' hK' => ?_); (repeat (simp only [go_sem, simprocAttr, he])); ((refine hK' _ _ ?_) <;> clear hK' K'))); all_goals (refine al_nil ?_; (simp only [go_sem, simprocAttr, he]); refine hK _ ?_; clear hK K))
    refine awp_if (_) rfl (fun hc => ?_) (fun hc => ?_)
    · (refine awp_reg_seq [6, 7, 8, 9] fun K hK => ?_; (repeat' ((refine al_r rfl fun K' hK' => ?_); (repeat (simp only [go_sem, simprocAttr, he])); ((refine hK' _ _ ?_) <;> clear hK' K'))); all_goals (refine al_nil ?_; (simp only [go_sem, simprocAttr, he]); refine hK _ ?_; clear hK K))
      refine awp_born 6 1 rfl ?_
      refine awp_born 7 1 rfl ?_
      (refine awp_frz [6, 7, 8, 9] [5, 6] (by decide) (by (simp; done)) ?_; simp only [go_sem, simprocAttr, he])
      refine awp_ret (hR _ _ [0, 1] (.inl rfl) rfl (by decide) (by simp only [List.length_cons, List.length_nil]; decide) ?_)
      refine ⟨?_, ?_⟩
      · (simp only [go_sem, simprocAttr, he]; try rfl)
      · (simp only [go_sem, simprocAttr, he]; try rfl)
    · cases hc


theorem overObjO (g t : List Int) (w e0 e1 V : Int) (lg lt : List Obj) (hog : ACallP Try.prog 15 [words g] (.tup [objs lg, iD e0])) (hot : ACallP Try.prog 15 [words t] (.tup [objs lt, iD e1])) (hV : V = if (e0 != 0) = true then e0 else e1) (hV0 : V ≠ 0) :
    ACalls Try.prog 27 [words g, words t, wD w] [] (fun r obs' => r = .tup [.ref 0 0 0, .ref 1 0 0, wD 0, iD V] ∧ obs' = [.row 1 [], .row 1 []]) := by
  refine acallm_fn [6, 7, 8, 9] Try.func27 rfl rfl Try.ntmps27 (by simp) (by simp) fun R hR => ?_
  (refine awp_reg_seq [0, 1, 2] fun K hK => ?_; (repeat' ((refine al_r rfl fun K' hK' => ?_); (repeat (simp only [go_sem, simprocAttr])); ((refine hK' _ _ ?_) <;> clear hK' K'))); all_goals (refine al_nil ?_; (simp only [go_sem, simprocAttr]); refine hK _ ?_; clear hK K))
  refine awp_seq_k fun K hK => ?_
  (refine awp_reg_seq [0, 1, 2, 19, 20] fun K hK => ?_; (repeat' ((refine al_r rfl fun K' hK' => ?_); (repeat (simp only [go_sem, simprocAttr])); ((refine hK' _ _ ?_) <;> clear hK' K'))); all_goals (refine al_nil ?_; (simp only [go_sem, simprocAttr]); refine hK _ ?_; clear hK K))
  refine awp_block ?_
  -- loop 0 head [0, 1, 2, 19, 20]
  refine awp_loop_cut (fun m s => ∃ i : Nat, i ≤ 1 ∧ m = 2 - i ∧ (i = 1 → e0 = 0) ∧ s = ⟨ofL [(0, words g), (1, words t), (2, wD w), (19, .agg [words g, words t]), (20, iD i)], [], 0⟩) ⟨_, 0, Nat.zero_le _, rfl, fun h => (by cases h), rfl⟩ ?_
  rintro m s ⟨i, hi, hm, hie, rfl⟩
  (refine awp_reg_seq [0, 1, 2, 19, 20, 21] fun K hK => ?_; (repeat' ((refine al_r rfl fun K' hK' => ?_); (repeat (simp only [go_sem, simprocAttr])); ((refine hK' _ _ ?_) <;> clear hK' K'))); all_goals (refine al_nil ?_; (simp only [go_sem, simprocAttr]); refine hK _ ?_; clear hK K))
  refine awp_seq_k fun K hK => ?_
  refine awp_if (decide ((i : Int) < 2)) rfl (fun hc => ?_) (fun hc => ?_)
  · refine awp_skip ?_
    refine hK _ ?_; clear hK K
    refine awp_seq_k fun K hK => ?_
    refine awp_block ?_
    have hi2 : i < 2 := by omega
    obtain ⟨x, l, e, hget, hob, hcase⟩ : ∃ (x : List Int) (l : List Obj) (e : Int), ([words g, words t] : List D)[i]? = some (words x) ∧ ACallP Try.prog 15 [words x] (.tup [objs l, iD e]) ∧ ((i = 0 ∧ e = e0) ∨ (i = 1 ∧ e = e1)) := by
      match i, hi2 with
      | 0, _ => exact ⟨g, lg, e0, rfl, hog, .inl ⟨rfl, rfl⟩⟩
      | 1, _ => exact ⟨t, lt, e1, rfl, hot, .inr ⟨rfl, rfl⟩⟩
    have hnn : (0 : Int) ≤ (i : Int) := Int.natCast_nonneg i
    have hi2' : (i : Int) < ((2 : Nat) : Int) := by omega
    have hnx : IntKind.i64.wrap ((i : Int) + 1) = ((i + 1 : Nat) : Int) := by rw [Go.Ab.wrap_small (by omega) (by omega)]; rfl

    (refine awp_reg_seq [0, 1, 2, 11, 19, 20] fun K hK => ?_; (repeat' ((refine al_r rfl fun K' hK' => ?_); (repeat (simp only [go_sem, simprocAttr, hget, hnn, hi2', hnx, Int.toNat_natCast, Nat.mul_one])); ((first | refine hK' _ _ ?_ | refine ⟨?_, hK' _ _ ?_⟩) <;> clear hK' K' <;> (first | (show alist _ _ _ _ _ _; skip) | assumption)))); all_goals (refine al_nil ?_; (simp only [go_sem, simprocAttr, hget, hnn, hi2', hnx, Int.toNat_natCast, Nat.mul_one]); refine hK _ ?_; clear hK K))
    (refine awp_reg_seq [0, 1, 2, 13, 19, 20] fun K hK => ?_; (repeat' ((refine al_r rfl fun K' hK' => ?_); (repeat (simp only [go_sem, simprocAttr, hget, hnn, hi2', hnx, Int.toNat_natCast, Nat.mul_one])); (first | ((refine hK' _ _ ?_) <;> clear hK' K') | ((show AC _ _ (D.fn 15 _) _ _); refine acall_p (f := 15) (e := rfl) (hr := rfl) (k := hK' _ _ ?_) (hc := Try.call15) (h := hob); clear hK' K')))); all_goals (refine al_nil ?_; (simp only [go_sem, simprocAttr, hget, hnn, hi2', hnx, Int.toNat_natCast, Nat.mul_one]); refine hK _ ?_; clear hK K))
    (refine awp_reg_seq [0, 1, 2, 13, 19, 20, 29] fun K hK => ?_; (repeat' ((refine al_r rfl fun K' hK' => ?_); (repeat (simp only [go_sem, simprocAttr, hget, hnn, hi2', hnx, Int.toNat_natCast, Nat.mul_one])); ((refine hK' _ _ ?_) <;> clear hK' K'))); all_goals (refine al_nil ?_; (simp only [go_sem, simprocAttr, hget, hnn, hi2', hnx, Int.toNat_natCast, Nat.mul_one]); refine hK _ ?_; clear hK K))
    refine awp_if (e != 0) rfl (fun hc => ?_) (fun hc => ?_)
    · (refine awp_reg_seq [6, 7, 8, 9] fun K hK => ?_; (repeat' ((refine al_r rfl fun K' hK' => ?_); (repeat (simp only [go_sem, simprocAttr, hget, hnn, hi2', hnx, Int.toNat_natCast, Nat.mul_one])); ((refine hK' _ _ ?_) <;> clear hK' K'))); all_goals (refine al_nil ?_; (simp only [go_sem, simprocAttr, hget, hnn, hi2', hnx, Int.toNat_natCast, Nat.mul_one]); refine hK _ ?_; clear hK K))
      have hVe : V = e := by
        rcases hcase with ⟨h1, h2⟩ | ⟨h1, h2⟩
        · rw [hV, ← h2, if_pos hc]
        · rw [hV, hie h1, h2]; rfl
      refine awp_born 6 1 rfl ?_
      refine awp_born 7 1 rfl ?_
      refine awp_ret (hR _ _ [0, 1] (.inl rfl) rfl (by decide) (by simp only [List.length_cons, List.length_nil]; decide) ?_)
      rw [hVe]
      refine ⟨?_, ?_⟩
      · (simp only [go_sem, simprocAttr, hget, hnn, hi2', hnx, Int.toNat_natCast, Nat.mul_one]; try rfl)
      · (simp only [go_sem, simprocAttr, hget, hnn, hi2', hnx, Int.toNat_natCast, Nat.mul_one]; try rfl)
    · have he0 : e = 0 := by simpa using hc
      refine awp_skip ?_
      refine hK _ ?_; clear hK K
      (refine awp_reg_end [0, 1, 2, 19, 20] fun K hK => ?_; (repeat' ((refine al_r rfl fun K' hK' => ?_); (repeat (simp only [go_sem, simprocAttr, hget, hnn, hi2', hnx, Int.toNat_natCast, Nat.mul_one])); ((refine hK' _ _ ?_) <;> clear hK' K'))); all_goals (refine al_nil ?_; (simp only [go_sem, simprocAttr, hget, hnn, hi2', hnx, Int.toNat_natCast, Nat.mul_one]); refine hK _ ?_; clear hK K))
      rcases hcase with ⟨h1, h2⟩ | ⟨h1, h2⟩
      · exact ⟨2 - (i + 1), by omega, [0, 1, 2, 19, 20], [], by decide, by intro q hq; exact absurd hq (Nat.not_lt_zero q), i + 1, by omega, rfl, fun _ => by rw [← h2]; exact he0, rfl⟩
      · exfalso; refine hV0 ?_; rw [hV, hie h1, ← h2, he0]; rfl
  · simp at hc
    omega

/-- What Over does: its answers are own rows, whatever comes. -/
theorem overW (g t : List Int) (w : Int) (hgl : g.length ≤ maxLen) (htl : t.length ≤ maxLen) (hgo : ∀ w, w ∈ g → WordOk w) (hto : ∀ w, w ∈ t → WordOk w) :
    ∃ (l1 l2 : List Int) (x e : Int), l1.length ≤ 4000 ∧ l2.length ≤ 4000 ∧ ACalls Try.prog 27 [words g, words t, wD w] [] (fun r obs' => r = .tup [.ref 0 0 l1.length, .ref 1 0 l2.length, wD x, iD e] ∧ obs' = [.row 1 (l1.map wrow), .row 1 (l2.map wrow)]) := by
  have hog := objects g hgl hgo
  have hot := objects t htl hto
  by_cases h1 : (objsS g).2 = 0
  · by_cases h2 : (objsS t).2 = 0
    · obtain ⟨hg4, _⟩ := heap_flat hgl hgo h1
      obtain ⟨ht4, htf, htp⟩ := heap_flat htl hto h2
      rw [h1] at hog
      rw [h2] at hot
      obtain ⟨hw, hk⟩ := wordKc g hg4 hgo 40 (by omega) (g, t, []) w ⟨rfl, ht4⟩
      have hfin : ∀ W, W = wordK g 40 (g, t, []) w → ACalls Try.prog 59 [.ptr 0 0 0, wD w, iD 40] (cpA g (g, t, [])) (fun r obs' => r = .tup [wD W.1.1, iD W.1.2] ∧ obs' = cpB g W.2) := fun W e => by subst e; exact hw
      generalize hW : wordK g 40 (g, t, []) w = W at hw hk
      obtain ⟨⟨x, e⟩, S⟩ := W
      have hw := hfin _ hW.symm
      by_cases he : e = 0
      · subst he
        exact ⟨S.1, S.2.1, x, 0, by have := hk.1; simp only at this; omega, hk.2, overOk g t w _ _ hg4 ht4 hog hot x S hw⟩
      · exact ⟨[], [], 0, e, by simp, by simp, overBadO g t w _ _ hg4 ht4 hog hot x e S (by simpa using he) hw⟩
    · exact ⟨[], [], 0, _, by simp, by simp, overObjO g t w _ _ _ _ _ hog hot (by rw [if_neg (by simp [h1])]) h2⟩
  · exact ⟨[], [], 0, _, by simp, by simp, overObjO g t w _ _ _ _ _ hog hot (by rw [if_pos (by simpa using h1)]) h1⟩
end Go.Proofs.Ytagphggcdmjlpaa.P

/- Set, its ages own rows: contracts. -/
namespace Go.Proofs.Ytagphggcdmjlpaa.P
open Go.Ab Go.Proofs.Ytagphggcdmjlpaa.T


theorem setBadO (h : List Int) (old a w e : Int) (late : List Int) (he : (e != 0) = true) (hnm : ACallP Try.prog 66 [agesD h old late, words [w]] (iD e)) : ACalls Try.prog 33 [agesD h old late, iD a, wD w] [] (fun r obs' => r = .tup [.agg [.ref 0 0 0, iD 0, .ref 1 0 0], iD e] ∧ obs' = [.row 1 [], .row 1 []]) := by
  refine acallm_fnv [.cell 6 64, .tmp 7] Try.func33 rfl rfl Try.ntmps33 (by simp) (by simp) fun R hR => ?_
  (refine awp_reg_seq [1, 2, 3, 6] fun K hK => ?_; (repeat' ((refine al_r rfl fun K' hK' => ?_); (repeat (simp only [go_sem, simprocAttr, he])); ((refine hK' _ _ ?_) <;> clear hK' K'))); all_goals (refine al_nil ?_; (simp only [go_sem, simprocAttr, he]); refine hK _ ?_; clear hK K))
  (refine awp_frz [1, 2, 3, 6] [1] (by decide) (by (simp; done)) ?_; simp only [go_sem, simprocAttr, he])
  refine awp_seq_k fun K hK => ?_
  (refine awp_reg_seq [1, 2, 3, 6, 8] fun K hK => ?_; (repeat' ((refine al_r rfl fun K' hK' => ?_); (repeat (simp only [go_sem, simprocAttr, he])); (first | ((refine hK' _ _ ?_) <;> clear hK' K') | ((show AC _ _ (D.fn 66 _) _ _); refine acall_g (f := 66) (e := rfl) (hr := rfl) (hf := by simp [D.all, D.allL, flatL, flatPV]) (k := hK' _ _ ?_) (hc := Try.call66) (h := hnm); clear hK' K')))); all_goals (refine al_nil ?_; (simp only [go_sem, simprocAttr, he]); refine hK _ ?_; clear hK K))
  (refine awp_reg_seq [1, 2, 3, 6, 8, 22] fun K hK => ?_; (repeat' ((refine al_r rfl fun K' hK' => ?_); (repeat (simp only [go_sem, simprocAttr, he])); ((refine hK' _ _ ?_) <;> clear hK' K'))); all_goals (refine al_nil ?_; (simp only [go_sem, simprocAttr, he]); refine hK _ ?_; clear hK K))
  refine awp_if (_) rfl (fun hc => ?_) (fun hc => ?_)
  · (refine awp_reg_seq [6, 7] fun K hK => ?_; (repeat' ((first | refine al_r rfl fun K' hK' => ?_ | refine al_d rfl fun K' hK' => ?_); (repeat (first | (simp only [go_sem, simprocAttr, he]) | refine AS.mk ?_)); ((first | refine hK' _ _ ?_ | refine ⟨?_, hK' _ _ ?_⟩) <;> clear hK' K' <;> (first | (show alist _ _ _ _ _ _; skip) | (simp; done))))); all_goals (refine al_nil ?_; (simp only [go_sem, simprocAttr, he]); refine hK _ ?_; clear hK K))
    refine awp_born_box 0 0 1 rfl rfl ?_
    refine awp_born_box 0 2 1 rfl rfl ?_
    simp only [go_sem, simprocAttr, he]
    (refine awp_frz [6, 7] [0, 2, 3] (by decide) (by (simp; done)) ?_; simp only [go_sem, simprocAttr, he])
    refine awp_ret (hR _ _ (.inl rfl) rfl ⟨[1, 2], (.tup [.agg [.ref 1 0 0, iD 0, .ref 2 0 0], iD e]), by decide, by simp only [List.length_cons, List.length_nil]; decide, ?_, ?_⟩)
    · (simp only [go_sem, simprocAttr, he]; try rfl)
    · refine ⟨?_, ?_⟩
      · (simp only [go_sem, simprocAttr, he]; try rfl)
      · (simp only [go_sem, simprocAttr, he]; try rfl)
  · cases hc


theorem setNoneO (h : List Int) (old a w e : Int) (late : List Int) (o : Obj) (B : Bool) (hnm : ACallP Try.prog 66 [agesD h old late, words [w]] (iD 0)) (hat : ACallP Try.prog 19 [words h, iD a] (.tup [objD o, iD e])) (hbe : ACallP Try.prog 67 [words h, iD a] (bD B)) (hc0 : ((e != 0) || !B) = true) :
    ACalls Try.prog 33 [agesD h old late, iD a, wD w] [] (fun r obs' => r = .tup [.agg [.ref 0 0 0, iD 0, .ref 1 0 0], iD 4] ∧ obs' = [.row 1 [], .row 1 []]) := by
  obtain ⟨E, hE⟩ : ∃ E, (e != 0) = E := ⟨_, rfl⟩
  rw [hE] at hc0
  refine acallm_fnv [.cell 6 64, .tmp 7] Try.func33 rfl rfl Try.ntmps33 (by simp) (by simp) fun R hR => ?_
  (refine awp_reg_seq [1, 2, 3, 6] fun K hK => ?_; (repeat' ((refine al_r rfl fun K' hK' => ?_); (repeat (simp only [go_sem, simprocAttr, bne_self_eq_false])); ((refine hK' _ _ ?_) <;> clear hK' K'))); all_goals (refine al_nil ?_; (simp only [go_sem, simprocAttr, bne_self_eq_false]); refine hK _ ?_; clear hK K))
  (refine awp_frz [1, 2, 3, 6] [1] (by decide) (by (simp; done)) ?_; simp only [go_sem, simprocAttr, bne_self_eq_false])
  refine awp_seq_k fun K hK => ?_
  (refine awp_reg_seq [1, 2, 3, 6, 8] fun K hK => ?_; (repeat' ((refine al_r rfl fun K' hK' => ?_); (repeat (simp only [go_sem, simprocAttr, bne_self_eq_false])); (first | ((refine hK' _ _ ?_) <;> clear hK' K') | ((show AC _ _ (D.fn 66 _) _ _); refine acall_g (f := 66) (e := rfl) (hr := rfl) (hf := by simp [D.all, D.allL, flatL, flatPV]) (k := hK' _ _ ?_) (hc := Try.call66) (h := hnm); clear hK' K')))); all_goals (refine al_nil ?_; (simp only [go_sem, simprocAttr, bne_self_eq_false]); refine hK _ ?_; clear hK K))
  (refine awp_reg_seq [1, 2, 3, 6, 8, 22] fun K hK => ?_; (repeat' ((refine al_r rfl fun K' hK' => ?_); (repeat (simp only [go_sem, simprocAttr, bne_self_eq_false])); ((refine hK' _ _ ?_) <;> clear hK' K'))); all_goals (refine al_nil ?_; (simp only [go_sem, simprocAttr, bne_self_eq_false]); refine hK _ ?_; clear hK K))
  refine awp_if (_) rfl (fun hc => ?_) (fun hc => ?_)
  · cases hc
  · refine awp_skip ?_
    refine hK _ ?_; clear hK K
    (refine awp_reg_seq [1, 2, 3, 6, 9, 10] fun K hK => ?_; (repeat' ((first | refine al_r rfl fun K' hK' => ?_ | refine al_d rfl fun K' hK' => ?_); (repeat (first | (simp only [go_sem, simprocAttr, bne_self_eq_false]) | refine AS.mk ?_)); (first | ((first | refine hK' _ _ ?_ | refine ⟨?_, hK' _ _ ?_⟩) <;> clear hK' K' <;> (first | (show alist _ _ _ _ _ _; skip) | (simp; done))) | ((show AC _ _ (D.fn 19 _) _ _); refine acall_p (f := 19) (e := rfl) (hr := rfl) (k := hK' _ _ ?_) (hc := Try.call19) (h := hat); clear hK' K')))); all_goals (refine al_nil ?_; (simp only [go_sem, simprocAttr, bne_self_eq_false]); refine hK _ ?_; clear hK K))
    (refine awp_frz [1, 2, 3, 6, 9, 10] [0] (by decide) (by (simp; done)) ?_; simp only [go_sem, simprocAttr, bne_self_eq_false])
    refine awp_seq_k fun K hK => ?_
    refine awp_block ?_

    refine awp_reg_tov [1, 2, 3, 6, 9, 32] [(32, bD true)] (h := ?_) (k := ?_)
    · cases E <;> cases B <;> first | (cases hc0; done) | skip
      all_goals ((repeat' (first | ((first | refine al_r rfl fun K' hK' => ?_ | refine al_t rfl rfl fun K' hK' => ?_); (repeat (simp only [go_sem, simprocAttr, hE])); (first | ((refine hK' _ _ ?_) <;> clear hK' K') | ((show AC _ _ (D.fn 67 _) _ _); refine acall_p (f := 67) (e := rfl) (hr := rfl) (k := hK' _ _ ?_) (hc := Try.call67) (h := hbe); clear hK' K'))) | refine al_e rfl rfl ?_)); all_goals (refine al_nil ?_; (simp only [go_sem, simprocAttr, hE, *, Bool.and_true, Bool.and_false, Bool.true_and, Bool.false_and, Bool.or_true, Bool.true_or, Bool.or_false, Bool.false_or, Bool.not_true, Bool.not_false, Bool.false_eq_true]; done)))
    (intro K hK; (simp only [go_sem, simprocAttr, hE]); refine hK _ ?_; clear hK K)
    refine awp_if (_) rfl (fun hc => ?_) (fun hc => ?_)
    · (refine awp_reg_seq [6, 7] fun K hK => ?_; (repeat' ((first | refine al_r rfl fun K' hK' => ?_ | refine al_d rfl fun K' hK' => ?_); (repeat (first | (simp only [go_sem, simprocAttr, hE]) | refine AS.mk ?_)); ((first | refine hK' _ _ ?_ | refine ⟨?_, hK' _ _ ?_⟩) <;> clear hK' K' <;> (first | (show alist _ _ _ _ _ _; skip) | (simp; done))))); all_goals (refine al_nil ?_; (simp only [go_sem, simprocAttr, hE]); refine hK _ ?_; clear hK K))
      refine awp_born_box 0 0 1 rfl rfl ?_
      refine awp_born_box 0 2 1 rfl rfl ?_
      simp only [go_sem, simprocAttr, hE]
      (refine awp_frz [6, 7] [0, 1, 2] (by decide) (by (simp; done)) ?_; simp only [go_sem, simprocAttr, hE])
      refine awp_ret (hR _ _ (.inl rfl) rfl ⟨[1, 2], (.tup [.agg [.ref 1 0 0, iD 0, .ref 2 0 0], iD 4]), by decide, by simp only [List.length_cons, List.length_nil]; decide, ?_, ?_⟩)
      · (simp only [go_sem, simprocAttr, hE]; try rfl)
      · refine ⟨?_, ?_⟩
        · (simp only [go_sem, simprocAttr, hE]; try rfl)
        · (simp only [go_sem, simprocAttr, hE]; try rfl)
    · cases hc


theorem setTypeO (h : List Int) (old a w : Int) (late : List Int) (o : Obj) (hnm : ACallP Try.prog 66 [agesD h old late, words [w]] (iD 0)) (hat : ACallP Try.prog 19 [words h, iD a] (.tup [objD o, iD 0])) (hbe : ACallP Try.prog 67 [words h, iD a] (bD true)) (hc0 : ((o.kind != 5) || (o.parts.length : Int) != 1) = true) :
    ACalls Try.prog 33 [agesD h old late, iD a, wD w] [] (fun r obs' => r = .tup [.agg [.ref 0 0 0, iD 0, .ref 1 0 0], iD 12] ∧ obs' = [.row 1 [], .row 1 []]) := by
  obtain ⟨E, hE⟩ : ∃ E, (o.kind != 5) = E := ⟨_, rfl⟩
  obtain ⟨G, hG⟩ : ∃ G, ((o.parts.length : Int) != 1) = G := ⟨_, rfl⟩
  rw [hE, hG] at hc0
  refine acallm_fnv [.cell 6 64, .tmp 7] Try.func33 rfl rfl Try.ntmps33 (by simp) (by simp) fun R hR => ?_
  (refine awp_reg_seq [1, 2, 3, 6] fun K hK => ?_; (repeat' ((refine al_r rfl fun K' hK' => ?_); (repeat (simp only [go_sem, simprocAttr, bne_self_eq_false, List.length_map])); ((refine hK' _ _ ?_) <;> clear hK' K'))); all_goals (refine al_nil ?_; (simp only [go_sem, simprocAttr, bne_self_eq_false, List.length_map]); refine hK _ ?_; clear hK K))
  (refine awp_frz [1, 2, 3, 6] [1] (by decide) (by (simp; done)) ?_; simp only [go_sem, simprocAttr, bne_self_eq_false, List.length_map])
  refine awp_seq_k fun K hK => ?_
  (refine awp_reg_seq [1, 2, 3, 6, 8] fun K hK => ?_; (repeat' ((refine al_r rfl fun K' hK' => ?_); (repeat (simp only [go_sem, simprocAttr, bne_self_eq_false, List.length_map])); (first | ((refine hK' _ _ ?_) <;> clear hK' K') | ((show AC _ _ (D.fn 66 _) _ _); refine acall_g (f := 66) (e := rfl) (hr := rfl) (hf := by simp [D.all, D.allL, flatL, flatPV]) (k := hK' _ _ ?_) (hc := Try.call66) (h := hnm); clear hK' K')))); all_goals (refine al_nil ?_; (simp only [go_sem, simprocAttr, bne_self_eq_false, List.length_map]); refine hK _ ?_; clear hK K))
  (refine awp_reg_seq [1, 2, 3, 6, 8, 22] fun K hK => ?_; (repeat' ((refine al_r rfl fun K' hK' => ?_); (repeat (simp only [go_sem, simprocAttr, bne_self_eq_false, List.length_map])); ((refine hK' _ _ ?_) <;> clear hK' K'))); all_goals (refine al_nil ?_; (simp only [go_sem, simprocAttr, bne_self_eq_false, List.length_map]); refine hK _ ?_; clear hK K))
  refine awp_if (_) rfl (fun hc => ?_) (fun hc => ?_)
  · cases hc
  · refine awp_skip ?_
    refine hK _ ?_; clear hK K
    (refine awp_reg_seq [1, 2, 3, 6, 9, 10] fun K hK => ?_; (repeat' ((first | refine al_r rfl fun K' hK' => ?_ | refine al_d rfl fun K' hK' => ?_); (repeat (first | (simp only [go_sem, simprocAttr, bne_self_eq_false, List.length_map]) | refine AS.mk ?_)); (first | ((first | refine hK' _ _ ?_ | refine ⟨?_, hK' _ _ ?_⟩) <;> clear hK' K' <;> (first | (show alist _ _ _ _ _ _; skip) | (simp; done))) | ((show AC _ _ (D.fn 19 _) _ _); refine acall_p (f := 19) (e := rfl) (hr := rfl) (k := hK' _ _ ?_) (hc := Try.call19) (h := hat); clear hK' K')))); all_goals (refine al_nil ?_; (simp only [go_sem, simprocAttr, bne_self_eq_false, List.length_map]); refine hK _ ?_; clear hK K))
    (refine awp_frz [1, 2, 3, 6, 9, 10] [0] (by decide) (by (simp; done)) ?_; simp only [go_sem, simprocAttr, bne_self_eq_false, List.length_map])
    refine awp_seq_k fun K hK => ?_
    refine awp_block ?_
    refine awp_reg_tov [1, 2, 3, 6, 9, 32] [(32, bD false)] (h := ?_) (k := ?_)
    · all_goals ((repeat' ((first | refine al_r rfl fun K' hK' => ?_ | refine al_t rfl rfl fun K' hK' => ?_); (repeat (simp only [go_sem, simprocAttr, bne_self_eq_false, List.length_map])); (first | ((refine hK' _ _ ?_) <;> clear hK' K') | ((show AC _ _ (D.fn 67 _) _ _); refine acall_p (f := 67) (e := rfl) (hr := rfl) (k := hK' _ _ ?_) (hc := Try.call67) (h := hbe); clear hK' K')))); all_goals (refine al_nil ?_; (simp only [go_sem, simprocAttr, bne_self_eq_false, List.length_map, *, Bool.and_true, Bool.and_false, Bool.true_and, Bool.false_and, Bool.or_true, Bool.true_or, Bool.or_false, Bool.false_or, Bool.not_true, Bool.not_false, Bool.false_eq_true]; done)))
    (intro K hK; (simp only [go_sem, simprocAttr, bne_self_eq_false, List.length_map]); refine hK _ ?_; clear hK K)
    refine awp_if (_) rfl (fun hc => ?_) (fun hc => ?_)
    · cases hc

    · refine awp_reg_tov [1, 2, 3, 6, 43] [(43, bD true)] (h := ?_) (k := ?_)
      · cases E <;> cases G <;> first | (cases hc0; done) | skip
        all_goals ((repeat' (first | ((first | refine al_r rfl fun K' hK' => ?_ | refine al_t rfl rfl fun K' hK' => ?_); (repeat (simp only [go_sem, simprocAttr, hE, hG, List.length_map])); ((first | refine hK' _ _ ?_ | refine ⟨?_, hK' _ _ ?_⟩) <;> clear hK' K' <;> (first | (show alist _ _ _ _ _ _; skip) | (intro s hs; cases hs; done)))) | refine al_e rfl rfl ?_)); all_goals (refine al_nil ?_; (simp only [go_sem, simprocAttr, hE, hG, List.length_map, *, Bool.and_true, Bool.and_false, Bool.true_and, Bool.false_and, Bool.or_true, Bool.true_or, Bool.or_false, Bool.false_or, Bool.not_true, Bool.not_false, Bool.false_eq_true]; done)))
      (intro K hK; (simp only [go_sem, simprocAttr, hE, hG, List.length_map]); refine hK _ ?_; clear hK K)
      refine awp_if (_) rfl (fun hc => ?_) (fun hc => ?_)
      · (refine awp_reg_seq [6, 7] fun K hK => ?_; (repeat' ((first | refine al_r rfl fun K' hK' => ?_ | refine al_d rfl fun K' hK' => ?_); (repeat (first | (simp only [go_sem, simprocAttr, hE, hG, List.length_map]) | refine AS.mk ?_)); ((first | refine hK' _ _ ?_ | refine ⟨?_, hK' _ _ ?_⟩) <;> clear hK' K' <;> (first | (show alist _ _ _ _ _ _; skip) | (simp; done))))); all_goals (refine al_nil ?_; (simp only [go_sem, simprocAttr, hE, hG, List.length_map]); refine hK _ ?_; clear hK K))
        refine awp_born_box 0 0 1 rfl rfl ?_
        refine awp_born_box 0 2 1 rfl rfl ?_
        simp only [go_sem, simprocAttr, hE, hG, List.length_map]
        (refine awp_frz [6, 7] [0, 1, 2] (by decide) (by (simp; done)) ?_; simp only [go_sem, simprocAttr, hE, hG, List.length_map])
        refine awp_ret (hR _ _ (.inl rfl) rfl ⟨[1, 2], (.tup [.agg [.ref 1 0 0, iD 0, .ref 2 0 0], iD 12]), by decide, by simp only [List.length_cons, List.length_nil]; decide, ?_, ?_⟩)
        · (simp only [go_sem, simprocAttr, hE, hG, List.length_map]; try rfl)
        · refine ⟨?_, ?_⟩
          · (simp only [go_sem, simprocAttr, hE, hG, List.length_map]; try rfl)
          · (simp only [go_sem, simprocAttr, hE, hG, List.length_map]; try rfl)
      · cases hc

set_option maxRecDepth 100000 in
theorem setOkO (h : List Int) (old w : Int) (n : Nat) (late : List Int) (o : Obj) (hnm : ACallP Try.prog 66 [agesD h old late, words [w]] (iD 0)) (hat : ACallP Try.prog 19 [words h, iD n] (.tup [objD o, iD 0])) (hbe : ACallP Try.prog 67 [words h, iD n] (bD true))
    (hk : (o.kind != 5) = false) (hpa : ((o.parts.length : Int) != 1) = false) (hlen : h.length ≤ 4000) (hn : n + 1 < h.length) (hlate : late.length ≤ 100000) (hrise : Rising (fun x : Int => x - (n : Int)) late) :
    ACalls Try.prog 33 [agesD h old late, iD n, wD w] [] (fun r obs' => r = .tup [.agg [.ref 0 0 h.length, iD old, .ref 1 0 (setL old late n (placeS w)).length], iD 0] ∧ obs' = [.row 1 ((h.set (n + 1) w).map wrow), .row 1 ((setL old late n (placeS w)).map irow)]) := by
  obtain ⟨V, hV⟩ : ∃ V, V = setL old late n (placeS w) := ⟨_, rfl⟩
  rw [← hV]
  unfold setL at hV
  have hcH := cloneH (h.map wrow) (fun x hx => by obtain ⟨y, _, rfl⟩ := List.mem_map.1 hx; rfl) (by simp; omega)
  have hcI := cloneI (late.map irow) (irow1 late) (by simp; omega)
  rw [List.length_map] at hcH hcI
  have hpl := placeW w
  have hsr := searchI late (by simp [maxLen]; omega) (n : Int) hrise
  have htL : List.take late.length (late.map irow) = late.map irow := List.take_of_length_le (by simp)
  have hpos : posOf (fun x : Int => x - (n : Int)) late ≤ late.length := List.findIdx_le_length
  have hin := insAny late (posOf (fun x : Int => x - (n : Int)) late) hpos (by omega) (n : Int)
  have hil : (insL late (posOf (fun x : Int => x - (n : Int)) late) n).length = late.length + 1 := by unfold insL; simp; omega
  generalize posOf (fun x : Int => x - (n : Int)) late = pos at *
  generalize isAt (fun x : Int => x - (n : Int)) late = fnd at *
  have hsr2 : ACallP Try.prog 69 [.p (.sl (List.take late.length (late.map irow))), iD n] (.tup [iD pos, bD fnd]) := by rw [htL]; exact hsr
  clear hsr
  generalize placeS w = P at hpl hV
  obtain ⟨to, Is, pe⟩ := P
  simp only at hpl hV
  have hnn : (0 : Int) ≤ ((n + 1 : Nat) : Int) := Int.natCast_nonneg _
  have hnl : ((n + 1 : Nat) : Int) < (h.length : Int) := by omega
  have hnx : IntKind.i64.wrap ((n : Int) + 1) = ((n + 1 : Nat) : Int) := by rw [Go.Ab.wrap_small (by omega) (by omega)]; rfl
  have hset : (h.map wrow).set (n + 1) (wrow w) = (h.set (n + 1) w).map wrow := by rw [List.map_set]
  have htH : List.take h.length ((h.set (n + 1) w).map wrow) = (h.set (n + 1) w).map wrow := List.take_of_length_le (by simp)
  have htI : List.take (late.length + 1) ((insL late pos n).map irow) = (insL late pos n).map irow := List.take_of_length_le (by simp [hil])
  obtain ⟨X, hX⟩ : ∃ X, decide ((n : Int) < old) = X := ⟨_, rfl⟩
  obtain ⟨Y, hY⟩ : ∃ Y, decide (to ≥ old) = Y := ⟨_, rfl⟩
  rw [hX, hY] at hV
  refine acallm_fnv [.cell 6 64, .tmp 7] Try.func33 rfl rfl Try.ntmps33 (by simp) (by simp) fun R hR => ?_
  (refine awp_reg_seq [1, 2, 3, 6] fun K hK => ?_; (repeat' ((refine al_r rfl fun K' hK' => ?_); (repeat (simp only [go_sem, simprocAttr, bne_self_eq_false, List.length_map])); ((refine hK' _ _ ?_) <;> clear hK' K'))); all_goals (refine al_nil ?_; (simp only [go_sem, simprocAttr, bne_self_eq_false, List.length_map]); refine hK _ ?_; clear hK K))
  (refine awp_frz [1, 2, 3, 6] [1] (by decide) (by (simp; done)) ?_; simp only [go_sem, simprocAttr, bne_self_eq_false, List.length_map])
  refine awp_seq_k fun K hK => ?_
  (refine awp_reg_seq [1, 2, 3, 6, 8] fun K hK => ?_; (repeat' ((refine al_r rfl fun K' hK' => ?_); (repeat (simp only [go_sem, simprocAttr, bne_self_eq_false, List.length_map])); (first | ((refine hK' _ _ ?_) <;> clear hK' K') | ((show AC _ _ (D.fn 66 _) _ _); refine acall_g (f := 66) (e := rfl) (hr := rfl) (hf := by simp [D.all, D.allL, flatL, flatPV]) (k := hK' _ _ ?_) (hc := Try.call66) (h := hnm); clear hK' K')))); all_goals (refine al_nil ?_; (simp only [go_sem, simprocAttr, bne_self_eq_false, List.length_map]); refine hK _ ?_; clear hK K))
  (refine awp_reg_seq [1, 2, 3, 6, 8, 22] fun K hK => ?_; (repeat' ((refine al_r rfl fun K' hK' => ?_); (repeat (simp only [go_sem, simprocAttr, bne_self_eq_false, List.length_map])); ((refine hK' _ _ ?_) <;> clear hK' K'))); all_goals (refine al_nil ?_; (simp only [go_sem, simprocAttr, bne_self_eq_false, List.length_map]); refine hK _ ?_; clear hK K))
  refine awp_if (_) rfl (fun hc => ?_) (fun hc => ?_)
  · cases hc
  · refine awp_skip ?_
    refine hK _ ?_; clear hK K
    (refine awp_reg_seq [1, 2, 3, 6, 9, 10] fun K hK => ?_; (repeat' ((first | refine al_r rfl fun K' hK' => ?_ | refine al_d rfl fun K' hK' => ?_); (repeat (first | (simp only [go_sem, simprocAttr, bne_self_eq_false, List.length_map]) | refine AS.mk ?_)); (first | ((first | refine hK' _ _ ?_ | refine ⟨?_, hK' _ _ ?_⟩) <;> clear hK' K' <;> (first | (show alist _ _ _ _ _ _; skip) | (simp; done))) | ((show AC _ _ (D.fn 19 _) _ _); refine acall_p (f := 19) (e := rfl) (hr := rfl) (k := hK' _ _ ?_) (hc := Try.call19) (h := hat); clear hK' K')))); all_goals (refine al_nil ?_; (simp only [go_sem, simprocAttr, bne_self_eq_false, List.length_map]); refine hK _ ?_; clear hK K))
    (refine awp_frz [1, 2, 3, 6, 9, 10] [0] (by decide) (by (simp; done)) ?_; simp only [go_sem, simprocAttr, bne_self_eq_false, List.length_map])
    refine awp_seq_k fun K hK => ?_
    refine awp_block ?_
    refine awp_reg_tov [1, 2, 3, 6, 9, 32] [(32, bD false)] (h := ?_) (k := ?_)
    · all_goals ((repeat' ((first | refine al_r rfl fun K' hK' => ?_ | refine al_t rfl rfl fun K' hK' => ?_); (repeat (simp only [go_sem, simprocAttr, bne_self_eq_false, List.length_map])); (first | ((refine hK' _ _ ?_) <;> clear hK' K') | ((show AC _ _ (D.fn 67 _) _ _); refine acall_p (f := 67) (e := rfl) (hr := rfl) (k := hK' _ _ ?_) (hc := Try.call67) (h := hbe); clear hK' K')))); all_goals (refine al_nil ?_; (simp only [go_sem, simprocAttr, bne_self_eq_false, List.length_map, *, Bool.and_true, Bool.and_false, Bool.true_and, Bool.false_and, Bool.or_true, Bool.true_or, Bool.or_false, Bool.false_or, Bool.not_true, Bool.not_false, Bool.false_eq_true]; done)))
    (intro K hK; (simp only [go_sem, simprocAttr, bne_self_eq_false, List.length_map]); refine hK _ ?_; clear hK K)
    refine awp_if (_) rfl (fun hc => ?_) (fun hc => ?_)
    · cases hc

    · refine awp_reg_tov [1, 2, 3, 6, 43] [(43, bD false)] (h := ?_) (k := ?_)
      · all_goals ((repeat' ((first | refine al_r rfl fun K' hK' => ?_ | refine al_t rfl rfl fun K' hK' => ?_); (repeat (simp only [go_sem, simprocAttr, hk, hpa, List.length_map])); ((first | refine hK' _ _ ?_ | refine ⟨?_, hK' _ _ ?_⟩) <;> clear hK' K' <;> (first | (show alist _ _ _ _ _ _; skip) | (intro s hs; cases hs; done))))); all_goals (refine al_nil ?_; (simp only [go_sem, simprocAttr, hk, hpa, List.length_map, *, Bool.and_true, Bool.and_false, Bool.true_and, Bool.false_and, Bool.or_true, Bool.true_or, Bool.or_false, Bool.false_or, Bool.not_true, Bool.not_false, Bool.false_eq_true]; done)))
      (intro K hK; (simp only [go_sem, simprocAttr, hk, hpa, List.length_map]); refine hK _ ?_; clear hK K)
      refine awp_if (_) rfl (fun hc => ?_) (fun hc => ?_)
      · cases hc
      · refine awp_skip ?_
        refine hK _ ?_; clear hK K
        refine awp_suff ⟨ofL [(1, iD n), (2, wD w), (3, .rd [.sl (h.map wrow), .lit (.int .i64 old), .sl (late.map irow)] 0), (6, .ptr 0 0 0), (11, .ptr 1 0 0)], [.box [.nil, iD 0, .nil], .box [.ref 2 0 h.length, iD old, .ref 3 0 late.length], .row 1 (h.map wrow), .row 1 (late.map irow)], 0⟩ ?_ (fun keyA => ?_)
        rotate_left
        · refine awp_draw_seq (by kernel_rfl) [1, 2, 3, 6, 11] fun K hK => ?_
          ((refine ah_r 0 rfl (by kernel_rfl) rfl fun K' hK' => ?_); (simp only [go_sem, simprocAttr, hk, hpa, List.length_map]); ((refine hK' _ ?_); clear hK' K'))
          ((refine ah_r 1 rfl (by kernel_rfl) rfl fun K' hK' => ?_); (simp only [go_sem, simprocAttr, hk, hpa, List.length_map]); ((refine hK' _ ?_); clear hK' K'))
          ((refine ah_r 3 rfl (by kernel_rfl) rfl fun K' hK' => ?_); (simp only [go_sem, simprocAttr, hk, hpa, List.length_map]); ((refine hK' _ ?_); clear hK' K'))
          ((refine ah_r 4 rfl (by kernel_rfl) rfl fun K' hK' => ?_); (simp only [go_sem, simprocAttr, hk, hpa, List.length_map]); ((refine hK' _ ?_); clear hK' K'))
          ((refine ah_r 5 rfl (by kernel_rfl) rfl fun K' hK' => ?_); (simp only [go_sem, simprocAttr, hk, hpa, List.length_map]); ((refine hK' _ ?_); clear hK' K'))
          ((refine ah_r 6 rfl (by kernel_rfl) rfl fun K' hK' => ?_); (simp only [go_sem, simprocAttr, hk, hpa, List.length_map]); ((refine hK' _ ?_); clear hK' K'))
          refine ah_two 2 9 rfl rfl (by kernel_rfl) ?_ ?_
          · ((repeat' ((refine al_r rfl fun K' hK' => ?_); (repeat (simp only [go_sem, simprocAttr, hk, hpa, List.length_map])); ((show AC _ _ (D.fn 43 _) _ _); refine acall_new (f := 43) Try.call43 hcH rfl ?_; rintro r obs' ⟨rfl, rfl⟩; (simp only [go_sem, simprocAttr, hk, hpa, List.length_map]); refine hK' _ _ ?_; clear hK' K'))); all_goals refine al_nil ?_)
            refine ah_two 7 9 rfl rfl (by kernel_rfl) ?_ ?_
            · ((repeat' ((refine al_r rfl fun K' hK' => ?_); (repeat (simp only [go_sem, simprocAttr, hk, hpa, List.length_map])); ((show AC _ _ (D.fn 45 _) _ _); refine acall_new (f := 45) Try.call45 hcI rfl ?_; rintro r obs' ⟨rfl, rfl⟩; (simp only [go_sem, simprocAttr, hk, hpa, List.length_map]); refine hK' _ _ ?_; clear hK' K'))); all_goals refine al_nil ?_)
              refine ah_two 8 9 rfl rfl (by kernel_rfl) ?_ ?_
              · ((repeat' ((refine al_r rfl fun K' hK' => ?_); (repeat (simp only [go_sem, simprocAttr, hk, hpa, List.length_map])); ((refine hK' _ _ ?_) <;> clear hK' K'))); all_goals refine al_nil ?_)
                (refine ah_one 9 rfl (by kernel_rfl) ?_; (repeat' ((refine al_r rfl fun K' hK' => ?_); (repeat (simp only [go_sem, simprocAttr, hk, hpa, List.length_map])); ((refine hK' _ _ ?_) <;> clear hK' K'))); all_goals refine al_nil ?_)
                (refine ah_one 10 rfl (by kernel_rfl) ?_; (repeat' ((refine al_d rfl fun K' hK' => ?_); (repeat (first | (simp only [go_sem, simprocAttr, hk, hpa, List.length_map]) | refine AS.mk ?_)); ((refine ⟨?_, hK' _ _ ?_⟩) <;> clear hK' K' <;> (first | (show alist _ _ _ _ _ _; skip) | (simp; done))))); all_goals refine al_nil ?_)
                (refine ah_done (by kernel_rfl) ?_; (simp only [go_sem, simprocAttr, hk, hpa, List.length_map]); refine hK _ ?_; clear hK K)
                (refine awp_frz [1, 2, 3, 6, 11] [0, 3, 1, 2] (by decide) (by (simp; done)) ?_; simp only [go_sem, simprocAttr, hk, hpa, List.length_map])
                exact keyA
              · ((repeat' ((refine al_r rfl fun K' hK' => ?_); (repeat (simp only [go_sem, simprocAttr, hk, hpa, List.length_map])); ((refine hK' _ _ ?_) <;> clear hK' K'))); all_goals refine al_nil ?_)
                (refine ah_one 8 rfl (by kernel_rfl) ?_; (repeat' ((refine al_r rfl fun K' hK' => ?_); (repeat (simp only [go_sem, simprocAttr, hk, hpa, List.length_map])); ((refine hK' _ _ ?_) <;> clear hK' K'))); all_goals refine al_nil ?_)
                (refine ah_one 10 rfl (by kernel_rfl) ?_; (repeat' ((refine al_d rfl fun K' hK' => ?_); (repeat (first | (simp only [go_sem, simprocAttr, hk, hpa, List.length_map]) | refine AS.mk ?_)); ((refine ⟨?_, hK' _ _ ?_⟩) <;> clear hK' K' <;> (first | (show alist _ _ _ _ _ _; skip) | (simp; done))))); all_goals refine al_nil ?_)
                (refine ah_done (by kernel_rfl) ?_; (simp only [go_sem, simprocAttr, hk, hpa, List.length_map]); refine hK _ ?_; clear hK K)
                (refine awp_frz [1, 2, 3, 6, 11] [0, 3, 1, 2] (by decide) (by (simp; done)) ?_; simp only [go_sem, simprocAttr, hk, hpa, List.length_map])
                exact keyA
            · ((repeat' ((refine al_r rfl fun K' hK' => ?_); (repeat (simp only [go_sem, simprocAttr, hk, hpa, List.length_map])); ((refine hK' _ _ ?_) <;> clear hK' K'))); all_goals refine al_nil ?_)
              (refine ah_one 7 rfl (by kernel_rfl) ?_; (repeat' ((refine al_r rfl fun K' hK' => ?_); (repeat (simp only [go_sem, simprocAttr, hk, hpa, List.length_map])); ((show AC _ _ (D.fn 45 _) _ _); refine acall_new (f := 45) Try.call45 hcI rfl ?_; rintro r obs' ⟨rfl, rfl⟩; (simp only [go_sem, simprocAttr, hk, hpa, List.length_map]); refine hK' _ _ ?_; clear hK' K'))); all_goals refine al_nil ?_)
              (refine ah_one 8 rfl (by kernel_rfl) ?_; (repeat' ((refine al_r rfl fun K' hK' => ?_); (repeat (simp only [go_sem, simprocAttr, hk, hpa, List.length_map])); ((refine hK' _ _ ?_) <;> clear hK' K'))); all_goals refine al_nil ?_)
              (refine ah_one 10 rfl (by kernel_rfl) ?_; (repeat' ((refine al_d rfl fun K' hK' => ?_); (repeat (first | (simp only [go_sem, simprocAttr, hk, hpa, List.length_map]) | refine AS.mk ?_)); ((refine ⟨?_, hK' _ _ ?_⟩) <;> clear hK' K' <;> (first | (show alist _ _ _ _ _ _; skip) | (simp; done))))); all_goals refine al_nil ?_)
              (refine ah_done (by kernel_rfl) ?_; (simp only [go_sem, simprocAttr, hk, hpa, List.length_map]); refine hK _ ?_; clear hK K)
              (refine awp_frz [1, 2, 3, 6, 11] [0, 2, 1, 3] (by decide) (by (simp; done)) ?_; simp only [go_sem, simprocAttr, hk, hpa, List.length_map])
              exact keyA
          · ((repeat' ((refine al_r rfl fun K' hK' => ?_); (repeat (simp only [go_sem, simprocAttr, hk, hpa, List.length_map])); ((refine hK' _ _ ?_) <;> clear hK' K'))); all_goals refine al_nil ?_)
            (refine ah_one 2 rfl (by kernel_rfl) ?_; (repeat' ((refine al_r rfl fun K' hK' => ?_); (repeat (simp only [go_sem, simprocAttr, hk, hpa, List.length_map])); ((show AC _ _ (D.fn 43 _) _ _); refine acall_new (f := 43) Try.call43 hcH rfl ?_; rintro r obs' ⟨rfl, rfl⟩; (simp only [go_sem, simprocAttr, hk, hpa, List.length_map]); refine hK' _ _ ?_; clear hK' K'))); all_goals refine al_nil ?_)
            (refine ah_one 7 rfl (by kernel_rfl) ?_; (repeat' ((refine al_r rfl fun K' hK' => ?_); (repeat (simp only [go_sem, simprocAttr, hk, hpa, List.length_map])); ((show AC _ _ (D.fn 45 _) _ _); refine acall_new (f := 45) Try.call45 hcI rfl ?_; rintro r obs' ⟨rfl, rfl⟩; (simp only [go_sem, simprocAttr, hk, hpa, List.length_map]); refine hK' _ _ ?_; clear hK' K'))); all_goals refine al_nil ?_)
            (refine ah_one 8 rfl (by kernel_rfl) ?_; (repeat' ((refine al_r rfl fun K' hK' => ?_); (repeat (simp only [go_sem, simprocAttr, hk, hpa, List.length_map])); ((refine hK' _ _ ?_) <;> clear hK' K'))); all_goals refine al_nil ?_)
            (refine ah_one 10 rfl (by kernel_rfl) ?_; (repeat' ((refine al_d rfl fun K' hK' => ?_); (repeat (first | (simp only [go_sem, simprocAttr, hk, hpa, List.length_map]) | refine AS.mk ?_)); ((refine ⟨?_, hK' _ _ ?_⟩) <;> clear hK' K' <;> (first | (show alist _ _ _ _ _ _; skip) | (simp; done))))); all_goals refine al_nil ?_)
            (refine ah_done (by kernel_rfl) ?_; (simp only [go_sem, simprocAttr, hk, hpa, List.length_map]); refine hK _ ?_; clear hK K)
            (refine awp_frz [1, 2, 3, 6, 11] [0, 1, 2, 3] (by decide) (by (simp; done)) ?_; simp only [go_sem, simprocAttr, hk, hpa, List.length_map])
            exact keyA
        obtain ⟨x0, hx0⟩ := get_of_lt hn

        (refine awp_reg_seq [1, 2, 3, 6, 11] fun K hK => ?_; (repeat' ((first | refine al_r rfl fun K' hK' => ?_ | refine al_d rfl fun K' hK' => ?_); (repeat (first | (simp only [go_sem, simprocAttr, hx0, List.getElem?_map, Option.map_some, List.length_map, hnn, hnl, hnx, hset, Int.toNat_natCast]) | refine AS.mk ?_)); ((first | refine hK' _ _ ?_ | refine ⟨?_, hK' _ _ ?_⟩) <;> clear hK' K' <;> (first | (show alist _ _ _ _ _ _; skip) | (simp; done))))); all_goals (refine al_nil ?_; (simp only [go_sem, simprocAttr, hx0, List.getElem?_map, Option.map_some, List.length_map, hnn, hnl, hnx, hset, Int.toNat_natCast]); refine hK _ ?_; clear hK K))
        refine awp_seq_k fun K hK => ?_
        (refine awp_reg_seq [1, 3, 6, 11, 12, 13] fun K hK => ?_; (repeat' ((refine al_r rfl fun K' hK' => ?_); (repeat (simp only [go_sem, simprocAttr, hx0, List.getElem?_map, Option.map_some, List.length_map, hnn, hnl, hnx, hset, Int.toNat_natCast])); (first | ((refine hK' _ _ ?_) <;> clear hK' K') | ((show AC _ _ (D.fn 68 _) _ _); refine acall_p (f := 68) (e := rfl) (hr := rfl) (k := hK' _ _ ?_) (hc := Try.call68) (h := hpl); clear hK' K')))); all_goals (refine al_nil ?_; (simp only [go_sem, simprocAttr, hx0, List.getElem?_map, Option.map_some, List.length_map, hnn, hnl, hnx, hset, Int.toNat_natCast]); refine hK _ ?_; clear hK K))

        refine awp_reg_tov [1, 6, 11, 87] [(87, bD (Is && X && Y))] (h := ?_) (k := ?_)
        · cases Is <;> cases X
          all_goals ((repeat' (first | ((first | refine al_r rfl fun K' hK' => ?_ | refine al_t rfl rfl fun K' hK' => ?_); (repeat (simp only [go_sem, simprocAttr, hX, hY])); ((refine hK' _ _ ?_) <;> clear hK' K')) | refine al_e rfl rfl ?_)); all_goals (refine al_nil ?_; (simp only [go_sem, simprocAttr, hX, hY, *, Bool.and_true, Bool.and_false, Bool.true_and, Bool.false_and, Bool.or_true, Bool.true_or, Bool.or_false, Bool.false_or, Bool.not_true, Bool.not_false, Bool.false_eq_true]; done)))
        (intro K hK; (simp only [go_sem, simprocAttr, hX, hY]); refine hK _ ?_; clear hK K)
        refine awp_if (Is && X && Y) rfl (fun hc => ?_) (fun hc => ?_)
        · rw [if_pos hc] at hV

          (refine awp_reg_seq [1, 6, 11, 15, 16] fun K hK => ?_; (repeat' ((refine al_r rfl fun K' hK' => ?_); (repeat (simp only [go_sem, simprocAttr, List.length_map])); (first | ((refine hK' _ _ ?_) <;> clear hK' K') | ((show AC _ _ (D.fn 69 _) _ _); refine acall_g (f := 69) (e := rfl) (hr := rfl) (hf := by simp [D.all, D.allL, flatL, flatPV]) (k := hK' _ _ ?_) (hc := Try.call69) (h := hsr2); clear hK' K')))); all_goals (refine al_nil ?_; (simp only [go_sem, simprocAttr, List.length_map]); refine hK _ ?_; clear hK K))
          (refine awp_reg_seq [1, 6, 11, 15, 96] fun K hK => ?_; (repeat' ((refine al_r rfl fun K' hK' => ?_); (repeat (simp only [go_sem, simprocAttr, List.length_map])); ((refine hK' _ _ ?_) <;> clear hK' K'))); all_goals (refine al_nil ?_; (simp only [go_sem, simprocAttr, List.length_map]); refine hK _ ?_; clear hK K))
          refine awp_if (!fnd) rfl (fun hc => ?_) (fun hc => ?_)
          · have hVV : V = insL late pos n := by rw [hV, if_neg (by simpa using hc)]

            (refine awp_reg_end [6, 11] fun K hK => ?_; (repeat' ((first | refine al_r rfl fun K' hK' => ?_ | refine al_d rfl fun K' hK' => ?_); (repeat (first | (simp only [go_sem, simprocAttr, List.length_map, hil]) | refine AS.mk ?_)); (first | ((first | refine hK' _ _ ?_ | refine ⟨?_, hK' _ _ ?_⟩) <;> clear hK' K' <;> (first | (show alist _ _ _ _ _ _; skip) | (simp; done))) | ((show AC _ _ (D.fn 70 _) _ _); refine acall_m (f := 70) [3, 4] Try.call70 hin rfl rfl (by decide) (by simp) ?_; rintro r obs' ⟨rfl, rfl⟩; refine ⟨by simp, ?_⟩; (simp only [go_sem, simprocAttr, List.length_map, hil]); refine hK' _ _ ?_; clear hK' K')))); all_goals (refine al_nil ?_; (simp only [go_sem, simprocAttr, List.length_map, hil]); refine hK _ ?_; clear hK K))
            refine hK _ ?_; clear hK K
            (refine awp_reg_seq [6, 7] fun K hK => ?_; (repeat' ((first | refine al_r rfl fun K' hK' => ?_ | refine al_d rfl fun K' hK' => ?_); (repeat (first | (simp only [go_sem, simprocAttr, List.length_map, hil]) | refine AS.mk ?_)); ((first | refine hK' _ _ ?_ | refine ⟨?_, hK' _ _ ?_⟩) <;> clear hK' K' <;> (first | (show alist _ _ _ _ _ _; skip) | (simp; done))))); all_goals (refine al_nil ?_; (simp only [go_sem, simprocAttr, List.length_map, hil]); refine hK _ ?_; clear hK K))
            skip
            first
            | ((refine awp_frz [6, 7] [0, 2, 5] (by decide) (by first | (simp; done) | exact kept012 | exact kept0123) ?_; simp only [go_sem, simprocAttr, List.length_map, hil])
               refine awp_ret (hR _ _ (.inl rfl) rfl ⟨[1, 2], (.tup [.agg [.ref 1 0 h.length, iD old, .ref 2 0 (late.length + 1)], iD 0]), by decide, by simp only [List.length_cons, List.length_nil]; decide, ?_, ?_⟩)
               · (simp only [go_sem, simprocAttr, List.length_map, hil]; done)
               · (rw [hVV]; refine ⟨?_, ?_⟩ <;> simp only [go_sem, simprocAttr, List.length_map, hil, hil]))
            | ((refine awp_frz [6, 7] [0, 2, 3] (by decide) (by first | (simp; done) | exact kept012 | exact kept0123) ?_; simp only [go_sem, simprocAttr, List.length_map, hil])
               refine awp_ret (hR _ _ (.inl rfl) rfl ⟨[1, 2], (.tup [.agg [.ref 1 0 h.length, iD old, .ref 2 0 late.length], iD 0]), by decide, by simp only [List.length_cons, List.length_nil]; decide, ?_, ?_⟩)
               · (simp only [go_sem, simprocAttr, List.length_map, hil]; done)
               · (rw [hVV]; refine ⟨?_, ?_⟩ <;> simp only [go_sem, simprocAttr, List.length_map, hil]))
          · have hVV : V = late := by rw [hV, if_pos (by simpa using hc)]
            refine awp_skip ?_
            refine hK _ ?_; clear hK K
            (refine awp_reg_seq [6, 7] fun K hK => ?_; (repeat' ((first | refine al_r rfl fun K' hK' => ?_ | refine al_d rfl fun K' hK' => ?_); (repeat (first | (simp only [go_sem, simprocAttr, List.length_map, hil]) | refine AS.mk ?_)); ((first | refine hK' _ _ ?_ | refine ⟨?_, hK' _ _ ?_⟩) <;> clear hK' K' <;> (first | (show alist _ _ _ _ _ _; skip) | (simp; done))))); all_goals (refine al_nil ?_; (simp only [go_sem, simprocAttr, List.length_map, hil]); refine hK _ ?_; clear hK K))
            skip
            first
            | ((refine awp_frz [6, 7] [0, 2, 5] (by decide) (by first | (simp; done) | exact kept012 | exact kept0123) ?_; simp only [go_sem, simprocAttr, List.length_map, hil])
               refine awp_ret (hR _ _ (.inl rfl) rfl ⟨[1, 2], (.tup [.agg [.ref 1 0 h.length, iD old, .ref 2 0 (late.length + 1)], iD 0]), by decide, by simp only [List.length_cons, List.length_nil]; decide, ?_, ?_⟩)
               · (simp only [go_sem, simprocAttr, List.length_map, hil]; done)
               · (rw [hVV]; refine ⟨?_, ?_⟩ <;> simp only [go_sem, simprocAttr, List.length_map, hil, hil]))
            | ((refine awp_frz [6, 7] [0, 2, 3] (by decide) (by first | (simp; done) | exact kept012 | exact kept0123) ?_; simp only [go_sem, simprocAttr, List.length_map, hil])
               refine awp_ret (hR _ _ (.inl rfl) rfl ⟨[1, 2], (.tup [.agg [.ref 1 0 h.length, iD old, .ref 2 0 late.length], iD 0]), by decide, by simp only [List.length_cons, List.length_nil]; decide, ?_, ?_⟩)
               · (simp only [go_sem, simprocAttr, List.length_map, hil]; done)
               · (rw [hVV]; refine ⟨?_, ?_⟩ <;> simp only [go_sem, simprocAttr, List.length_map, hil]))
        · have hVV : V = late := by rw [hV, if_neg (by rw [hc]; simp)]
          refine awp_skip ?_
          refine hK _ ?_; clear hK K
          (refine awp_reg_seq [6, 7] fun K hK => ?_; (repeat' ((first | refine al_r rfl fun K' hK' => ?_ | refine al_d rfl fun K' hK' => ?_); (repeat (first | (simp only [go_sem, simprocAttr, List.length_map, hil]) | refine AS.mk ?_)); ((first | refine hK' _ _ ?_ | refine ⟨?_, hK' _ _ ?_⟩) <;> clear hK' K' <;> (first | (show alist _ _ _ _ _ _; skip) | (simp; done))))); all_goals (refine al_nil ?_; (simp only [go_sem, simprocAttr, List.length_map, hil]); refine hK _ ?_; clear hK K))
          skip
          first
          | ((refine awp_frz [6, 7] [0, 2, 5] (by decide) (by first | (simp; done) | exact kept012 | exact kept0123) ?_; simp only [go_sem, simprocAttr, List.length_map, hil])
             refine awp_ret (hR _ _ (.inl rfl) rfl ⟨[1, 2], (.tup [.agg [.ref 1 0 h.length, iD old, .ref 2 0 (late.length + 1)], iD 0]), by decide, by simp only [List.length_cons, List.length_nil]; decide, ?_, ?_⟩)
             · (simp only [go_sem, simprocAttr, List.length_map, hil]; done)
             · (rw [hVV]; refine ⟨?_, ?_⟩ <;> simp only [go_sem, simprocAttr, List.length_map, hil, hil]))
          | ((refine awp_frz [6, 7] [0, 2, 3] (by decide) (by first | (simp; done) | exact kept012 | exact kept0123) ?_; simp only [go_sem, simprocAttr, List.length_map, hil])
             refine awp_ret (hR _ _ (.inl rfl) rfl ⟨[1, 2], (.tup [.agg [.ref 1 0 h.length, iD old, .ref 2 0 late.length], iD 0]), by decide, by simp only [List.length_cons, List.length_nil]; decide, ?_, ?_⟩)
             · (simp only [go_sem, simprocAttr, List.length_map, hil]; done)
             · (rw [hVV]; refine ⟨?_, ?_⟩ <;> simp only [go_sem, simprocAttr, List.length_map, hil]))
end Go.Proofs.Ytagphggcdmjlpaa.P

