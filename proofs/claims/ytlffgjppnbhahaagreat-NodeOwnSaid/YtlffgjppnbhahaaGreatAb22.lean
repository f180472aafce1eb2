/- Arguments that are read as data. No program is named here. -/
import Derived.Test.YtlffgjppnbhahaaGreatAb21
import Derived.ChangeArms
import Derived.ChangeShapes
import Derived.Carry
import Derived.SizedLaws
import Derived.OpenShut
set_option linter.unusedSimpArgs false
set_option linter.unusedVariables false
set_option maxHeartbeats 1000000
namespace Go.Ab

/-- What data of a type looks like. -/
def shapeOk (P : Program) : Nat → TypeId → List PV → Prop
  | 0, _, _ => False
  | f + 1, t, xs =>
    match P.underlying t with
    | some .bool => ∃ b, xs = [.lit (.bool b)]
    | some (.int k) => ∃ n, xs = [.lit (.int k n)] ∧ (Lit.int k n).wf = true
    | some .string => ∃ s, xs = [.lit (.string s)] ∧ s.size ≤ maxLen
    | some (.slice e) => ∃ rows, xs = [.sl rows] ∧ rows.length ≤ maxLen ∧ rows.length * P.bytesOf e ≤ reachBytes ∧ ∀ r, r ∈ rows → r.length = P.cellsOf e ∧ shapeOk P f e r
    | some (.struct fs) => xs.length = P.cellsOf t ∧ ∀ g, g ∈ fs.toList → shapeOk P f g.type ((xs.drop g.offset).take (P.cellsOf g.type))
    | some (.array n e) => xs.length = n ∧ ∀ y, y ∈ xs → shapeOk P f e [y]
    | _ => False

/-- Fields that lie one behind the other. -/
def lay (P : Program) (total : Nat) : List Field → Nat → Bool
  | [], o => o == total
  | f :: l, o => f.offset == o && lay P total l (o + P.cellsOf f.type)

/-- Types that lead to one another alone. -/
def closedT (P : Program) (l : List TypeId) : Bool :=
  l.all fun t => match P.underlying t with
    | some .bool => true
    | some (.int _) => true
    | some .string => true
    | some (.slice e) => l.contains e && decide (0 < P.cellsOf e)
    | some (.struct fs) => fs.toList.all (fun f => l.contains f.type) && lay P (P.cellsOf t) fs.toList 0
    | some (.array n e) => l.contains e && P.cellsOf e == 1 && P.cellsOf t == n
    | _ => false

def cellsPV (H : HV) (cs : List Value) (xs : List PV) : Prop := xs.length = cs.length ∧ ∀ (i : Nat) v y, cs[i]? = some v → xs[i]? = some y → v.oneCell' = true ∧ PVr H v y

theorem cellsPV_one {H : HV} {v : Value} {y : PV} (h1 : v.oneCell' = true) (h : PVr H v y) : cellsPV H [v] [y] := by
  refine ⟨rfl, fun i v' y' hv hy => ?_⟩
  cases i with
  | zero => simp at hv hy; subst hv; subst hy; exact ⟨h1, h⟩
  | succ i => simp at hv

theorem fields_pv {P : Program} {H : HV} {f : Nat} {cs : List Value} {total : Nat} (hcs : cs.length = total) : ∀ (l : List Field) (o : Nat), lay P total l o = true →
    (∀ g, g ∈ l → ∃ xs, cellsPV H ((cs.drop g.offset).take (P.cellsOf g.type)) xs ∧ shapeOk P f g.type xs ∧ xs.length = P.cellsOf g.type) → o ≤ total →
    ∃ xs, cellsPV H (cs.drop o) xs ∧ ∀ g, g ∈ l → o ≤ g.offset ∧ shapeOk P f g.type ((xs.drop (g.offset - o)).take (P.cellsOf g.type))
  | [], o, hl, _, _ => by
    simp only [lay, beq_iff_eq] at hl
    refine ⟨[], ⟨by simp; omega, fun i v y h1 h2 => by simp at h2⟩, fun g hg => by cases hg⟩
  | g :: l, o, hl, h, ho => by
    simp only [lay, Bool.and_eq_true, beq_iff_eq] at hl
    obtain ⟨hgo, hl⟩ := hl
    obtain ⟨xs, ⟨a1, a2⟩, a3, a4⟩ := h g List.mem_cons_self
    rw [hgo] at a1 a2
    have hsz : o + P.cellsOf g.type ≤ total := by
      simp only [List.length_take, List.length_drop] at a1
      rw [a4] at a1
      omega
    obtain ⟨ys, ⟨b1, b2⟩, b3⟩ := fields_pv hcs l (o + P.cellsOf g.type) hl (fun g' hg' => h g' (List.mem_cons_of_mem _ hg')) hsz
    refine ⟨xs ++ ys, ⟨?_, fun i v y h1 h2 => ?_⟩, fun g' hg' => ?_⟩
    · simp only [List.length_append, a4, b1, List.length_drop]; omega
    · rw [List.getElem?_drop] at h1
      by_cases hi : i < P.cellsOf g.type
      · rw [List.getElem?_append_left (by omega)] at h2
        exact a2 i v y (by rw [List.getElem?_take, if_pos hi, List.getElem?_drop]; exact h1) h2
      · rw [List.getElem?_append_right (by omega)] at h2
        exact b2 (i - xs.length) v y (by rw [List.getElem?_drop]; rw [show o + P.cellsOf g.type + (i - xs.length) = o + i by omega]; exact h1) h2
    · rcases List.mem_cons.1 hg' with rfl | hg'
      · refine ⟨by omega, ?_⟩
        rw [hgo, Nat.sub_self, List.drop_zero, List.take_append_of_le_length (by omega), List.take_of_length_le (by omega)]
        exact a3
      · obtain ⟨c1, c2⟩ := b3 g' hg'
        refine ⟨by omega, ?_⟩
        rw [List.drop_append, List.drop_of_length_le (by omega), List.nil_append]
        rw [show g'.offset - o - xs.length = g'.offset - (o + P.cellsOf g.type) by omega]
        exact c2

theorem mapM_get {α β : Type} {f : α → Option β} : ∀ {l : List α} {r : List β}, l.mapM f = some r → r.length = l.length ∧ ∀ (i : Nat) x, l[i]? = some x → f x = r[i]?
  | [], r, h => by simp at h; subst h; exact ⟨rfl, fun i x hx => by simp at hx⟩
  | a :: l, r, h => by
    simp only [List.mapM_cons] at h
    cases ha : f a with
    | none => rw [ha] at h; cases h
    | some b =>
      rw [ha] at h
      cases hl : l.mapM f with
      | none => rw [hl] at h; cases h
      | some bs =>
        rw [hl] at h
        cases h
        obtain ⟨g1, g2⟩ := mapM_get hl
        refine ⟨by simp [g1], fun i x hx => ?_⟩
        cases i with
        | zero => simp at hx; subst hx; simp [ha]
        | succ i => simp at hx ⊢; exact g2 i x hx

theorem weights_all {H : Type} {P : Program} {e : TypeId} : ∀ {l : List (DataW H)} {d : DataW H}, d ∈ l → ∀ n ∈ d.weights P e, n ∈ DataW.weightsAll P e l
  | x :: l, d, hd, n, hn => by
    simp only [DataW.weightsAll, List.mem_append]
    rcases List.mem_cons.1 hd with rfl | hd
    · exact .inl hn
    · exact .inr (weights_all hd n hn)
  | [], _, hd, _, _ => by cases hd

theorem trod_pv {P : Program} {w : World} {H : Type} {enc : TypeId × Value → H} {sp : Nat → Bool} {l : List TypeId} (hl : closedT P l = true) : ∀ (fuel : Nat) (t : TypeId) (cs : List Value) (x : DataW H × List MemPlace), t ∈ l →
    DataW.trod enc P w 0 sp true fuel t cs = some x → (∀ n ∈ x.1.weights P t, n ≤ reachBytes) → ∃ xs, cellsPV (hvOf w) cs xs ∧ shapeOk P fuel t xs
  | 0, t, cs, x, ht, h, _ => by simp [DataW.trod] at h
  | fuel + 1, t, cs, x, ht, h, hwt => by
    have hc := List.all_eq_true.1 hl t ht
    unfold shapeOk
    cases hu : P.underlying t with
    | none => rw [hu] at hc; cases hc
    | some dsc =>
      rw [hu] at hc
      cases dsc <;> dsimp only at hc ⊢ <;> try (cases hc; done)
      case bool =>
        obtain ⟨b, rfl, _⟩ := DataW.trod_bool hu h
        exact ⟨_, cellsPV_one rfl (.lit _), b, rfl⟩
      case int k =>
        obtain ⟨n, rfl, _, hw⟩ := DataW.trod_int hu h
        exact ⟨_, cellsPV_one rfl (.lit _), n, rfl, hw⟩
      case string =>
        obtain ⟨s, rfl, _, hs⟩ := DataW.trod_string hu h
        exact ⟨_, cellsPV_one rfl (.lit _), s, rfl, hs⟩
      case slice e =>
        simp only [Bool.and_eq_true, List.contains_iff_mem, decide_eq_true_eq] at hc
        obtain ⟨he, hpos⟩ := hc
        rcases DataW.trod_slice hu h with ⟨rfl, _⟩ | ⟨a, len, cap, elems, rest, n, hn, rfl, rfl, _, hcap, hmax, hlen, hel, _, _⟩
        · exact ⟨_, cellsPV_one rfl (.none _ _), [], rfl, Nat.zero_le _, by simp, fun r hr => by cases hr⟩
        · obtain rfl : fuel = n := by omega
          have hwl : ((elems.map (·.1)).length + (rest.map (·.1)).length) * P.bytesOf e ≤ reachBytes := hwt _ (by simp [DataW.weights, hu])
          have hwe : ∀ y, y ∈ elems → ∀ n ∈ y.1.weights P e, n ≤ reachBytes := fun y hy n hn => hwt n (by
            simp only [DataW.weights, hu, List.mem_cons, List.mem_append]
            exact .inr (.inl (weights_all (List.mem_map.2 ⟨y, hy, rfl⟩) n hn)))
          have hwb : len * P.bytesOf e ≤ reachBytes := by
            rw [← hlen]
            exact Nat.le_trans (Nat.mul_le_mul_right _ (by simp)) hwl
          by_cases h0 : len = 0
          · subst h0
            exact ⟨_, cellsPV_one rfl (.none _ _), [], rfl, Nat.zero_le _, by simp, fun r hr => by cases hr⟩
          have each : ∀ i, i < len → ∃ ci r, w.cells? 0 (a.add (i * P.cellsOf e)) (P.cellsOf e) = some ci ∧ cellsPV (hvOf w) ci r ∧ shapeOk P fuel e r := fun i hi => by
            have h1 := hel i hi
            rw [List.getElem?_eq_getElem (by omega)] at h1
            cases hci : w.cells? 0 (a.add (i * P.cellsOf e)) (P.cellsOf e) with
            | none => rw [hci] at h1; cases h1
            | some ci =>
              rw [hci] at h1
              obtain ⟨r, g1, g2⟩ := trod_pv hl fuel e ci _ he h1 (hwe _ (List.getElem_mem _))
              exact ⟨ci, r, rfl, g1, g2⟩
          have cellsAt : ∀ {i : Nat} {ci : List Value}, w.cells? 0 (a.add (i * P.cellsOf e)) (P.cellsOf e) = some ci → ci.length = P.cellsOf e ∧ ∀ (j : Nat) v, ci[j]? = some v → w.cell? ((a.add (i * P.cellsOf e)).add j) = some v := fun {i ci} hci => by
            unfold World.cells? at hci
            rw [if_pos (Nat.zero_le _)] at hci
            obtain ⟨g1, g2⟩ := mapM_get hci
            refine ⟨by simpa using g1, fun j v hv => ?_⟩
            have hj : j < P.cellsOf e := by
              rcases Nat.lt_or_ge j ci.length with h' | h'
              · simp at g1; omega
              · simp [List.getElem?_eq_none h'] at hv
            rw [← hv]
            exact g2 j j (by simp [hj])
          have hspot : a.spot = none := by
            obtain ⟨ci, r, hci, _, _⟩ := each 0 (by omega)
            obtain ⟨g1, g2⟩ := cellsAt hci
            have := g2 0 ci[0] (List.getElem?_eq_getElem (by omega))
            unfold World.cell? at this
            split at this
            · split at this
              · cases this
              · rename_i hs
                cases hsp : a.spot with
                | none => rfl
                | some k => simp [Addr.add, hsp] at hs
            · cases this
          obtain ⟨ab, ao, asp⟩ := a
          simp only at hspot
          subst hspot
          have hblock : ∃ c, hvOf w ab = some c ∧ ∀ (k : Nat) v, w.cell? ⟨ab, k, none⟩ = some v → c[k]? = some v := by
            obtain ⟨ci, r, hci, _, _⟩ := each 0 (by omega)
            obtain ⟨g1, g2⟩ := cellsAt hci
            have := g2 0 ci[0] (List.getElem?_eq_getElem (by omega))
            rw [Addr.add_lit, Addr.add_lit] at this
            unfold World.cell? at this
            unfold hvOf
            split at this
            · rename_i c e' f hw
              have hw' : w.heap[ab]? = some (.cells c e' f) := hw
              rw [hw']
              refine ⟨c, rfl, fun k v hv => ?_⟩
              simpa [World.cell?, hw'] using hv
            · cases this
          obtain ⟨c, hc1, hc2⟩ := hblock
          let row : Nat → List PV := fun i => if hi : i < len then Classical.choose (Classical.choose_spec (each i hi)) else []
          have hrow : ∀ i, i < len → ∃ ci, w.cells? 0 ((⟨ab, ao, none⟩ : Addr).add (i * P.cellsOf e)) (P.cellsOf e) = some ci ∧ cellsPV (hvOf w) ci (row i) ∧ shapeOk P fuel e (row i) := fun i hi => by
            refine ⟨Classical.choose (each i hi), ?_⟩
            have := Classical.choose_spec (Classical.choose_spec (each i hi))
            simp only [row, dif_pos hi]
            exact this
          let rows := (List.range len).map row
          have hrl : rows.length = len := by simp [rows]
          have hget : ∀ (i : Nat) r, rows[i]? = some r → i < len ∧ r = row i := fun i r hr => by
            simp only [rows, List.getElem?_map] at hr
            rcases Nat.lt_or_ge i len with hi | hi
            · simp [hi] at hr; exact ⟨hi, hr.symm⟩
            · simp [List.getElem?_eq_none (show (List.range len).length ≤ i by simpa using hi)] at hr
          have hlenr : ∀ i, i < len → (row i).length = P.cellsOf e := fun i hi => by
            obtain ⟨ci, g1, g2, _⟩ := hrow i hi
            rw [g2.1, (cellsAt g1).1]
          have hcell : ∀ (i : Nat) r, rows[i]? = some r → ∀ (j : Nat) y, r[j]? = some y → ∃ v, c[ao + i * P.cellsOf e + j]? = some v ∧ v.oneCell' = true ∧ PVr (hvOf w) v y := fun i r hr j y hy => by
            obtain ⟨hi, rfl⟩ := hget i r hr
            obtain ⟨ci, g1, g2, _⟩ := hrow i hi
            obtain ⟨k1, k2⟩ := cellsAt g1
            have hj : j < ci.length := by
              rcases Nat.lt_or_ge j (row i).length with h' | h'
              · rw [g2.1] at h'; exact h'
              · simp [List.getElem?_eq_none h'] at hy
            have hv := k2 j ci[j] (List.getElem?_eq_getElem hj)
            rw [Addr.add_lit, Addr.add_lit] at hv
            refine ⟨ci[j], hc2 _ _ hv, (g2.2 j _ y (List.getElem?_eq_getElem hj) hy).1, (g2.2 j _ y (List.getElem?_eq_getElem hj) hy).2⟩
          have hpv := PVr.sl (H := hvOf w) ab ao cap (P.cellsOf e) c rows (fun i j => (c[ao + i * P.cellsOf e + j]?).getD undef) hc1
            (fun r hr => by
              obtain ⟨i, hi⟩ := List.getElem?_of_mem hr
              obtain ⟨h1, rfl⟩ := hget i r hi
              exact hlenr i h1) (by omega)
            (fun i r hr j y hy => by obtain ⟨v, a1, _⟩ := hcell i r hr j y hy; rw [a1]; rfl)
            (fun i r hr j y hy => by obtain ⟨v, a1, a2, _⟩ := hcell i r hr j y hy; rw [a1]; exact a2)
            (fun i r hr j y hy => by obtain ⟨v, a1, _, a3⟩ := hcell i r hr j y hy; rw [a1]; exact a3)
          rw [hrl] at hpv
          refine ⟨_, cellsPV_one rfl hpv, rows, rfl, by omega, by rw [hrl]; exact hwb, fun r hr => ?_⟩
          obtain ⟨i, hi⟩ := List.getElem?_of_mem hr
          obtain ⟨h1, rfl⟩ := hget i r hi
          obtain ⟨ci, _, _, g3⟩ := hrow i h1
          exact ⟨hlenr i h1, g3⟩
      case array n e =>
        simp only [Bool.and_eq_true, List.contains_iff_mem, beq_iff_eq] at hc
        obtain ⟨⟨he, h1⟩, hn⟩ := hc
        obtain ⟨xs, m, hm, rfl, hlen, hsz, hf⟩ := DataW.trod_array hu h
        obtain rfl : fuel = m := by omega
        rw [hn] at hlen
        have each : ∀ i, i < n → ∃ v y, cs[i]? = some v ∧ v.oneCell' = true ∧ PVr (hvOf w) v y ∧ shapeOk P fuel e [y] := fun i hi => by
          have g1 := hf i hi
          rw [h1, Nat.mul_one, List.getElem?_eq_getElem (by omega)] at g1
          have hcs : (cs.drop i).take 1 = [cs[i]] := by
            rw [List.drop_eq_getElem_cons (by omega), List.take_succ_cons, List.take_zero]
          rw [hcs] at g1
          obtain ⟨r, ⟨a1, a2⟩, a3⟩ := trod_pv hl fuel e _ _ he g1 (fun k hk => hwt k (by
            simp only [DataW.weights, hu]
            exact weights_all (List.mem_map.2 ⟨_, List.getElem_mem _, rfl⟩) k hk))
          match r, a1, a2, a3 with
          | [y], _, a2, a3 => exact ⟨cs[i], y, List.getElem?_eq_getElem (by omega), (a2 0 _ _ rfl rfl).1, (a2 0 _ _ rfl rfl).2, a3⟩
        let f : Nat → PV := fun i => if hi : i < n then Classical.choose (Classical.choose_spec (each i hi)) else .sl []
        have hfi : ∀ i, i < n → ∃ v, cs[i]? = some v ∧ v.oneCell' = true ∧ PVr (hvOf w) v (f i) ∧ shapeOk P fuel e [f i] := fun i hi => by
          refine ⟨Classical.choose (each i hi), ?_⟩
          have := Classical.choose_spec (Classical.choose_spec (each i hi))
          simp only [f, dif_pos hi]
          exact this
        refine ⟨(List.range n).map f, ⟨by simp [hlen], fun i v y hv hy => ?_⟩, by simp, fun y hy => ?_⟩
        · have hi : i < n := by
            rcases Nat.lt_or_ge i cs.length with h' | h'
            · omega
            · simp [List.getElem?_eq_none h'] at hv
          rw [List.getElem?_map, List.getElem?_range hi] at hy
          cases hy
          obtain ⟨v', b1, b2, b3, _⟩ := hfi i hi
          rw [b1] at hv; cases hv
          exact ⟨b2, b3⟩
        · obtain ⟨i, hi, rfl⟩ := List.mem_map.1 hy
          obtain ⟨_, _, _, _, b4⟩ := hfi i (List.mem_range.1 hi)
          exact b4
      case struct fs =>
        simp only [Bool.and_eq_true, List.all_eq_true, List.contains_iff_mem] at hc
        obtain ⟨hin, hlay⟩ := hc
        obtain ⟨xs, n, hn, rfl, hlen, hsz, hf⟩ := DataW.trod_struct hu h
        obtain rfl : fuel = n := by omega
        have hbound : ∀ (l' : List Field) (o : Nat), lay P (P.cellsOf t) l' o = true → o ≤ P.cellsOf t ∧ ∀ g, g ∈ l' → g.offset + P.cellsOf g.type ≤ P.cellsOf t := by
          intro l'
          induction l' with
          | nil => intro o ho; simp only [lay, beq_iff_eq] at ho; exact ⟨by omega, fun g hg => by cases hg⟩
          | cons g l' ih =>
            intro o ho
            simp only [lay, Bool.and_eq_true, beq_iff_eq] at ho
            obtain ⟨k1, k2⟩ := ih _ ho.2
            refine ⟨by omega, fun g' hg' => ?_⟩
            rcases List.mem_cons.1 hg' with rfl | hg'
            · omega
            · exact k2 g' hg'
        obtain ⟨ys, a1, a2⟩ := fields_pv (P := P) (H := hvOf w) (f := fuel) hlen fs.toList 0 hlay (fun g hg => by
          obtain ⟨i, hi⟩ := List.getElem?_of_mem hg
          rw [Array.getElem?_toList] at hi
          have h1 := hf i g hi
          have hi2 : i < fs.size := by
            rcases Nat.lt_or_ge i fs.size with h' | h'
            · exact h'
            · simp [Array.getElem?_eq_none h'] at hi
          rw [List.getElem?_eq_getElem (by omega)] at h1
          obtain ⟨r, g1, g2⟩ := trod_pv hl fuel g.type _ _ (hin g hg) h1 (fun n hn => hwt n (by
            simp only [DataW.weights, hu]
            exact DataW.weights_mem_each (j := i) (by simp [hi]) (by rw [List.getElem?_map, List.getElem?_eq_getElem (by omega)]; rfl) n hn))
          refine ⟨r, g1, g2, ?_⟩
          rw [g1.1, List.length_take, List.length_drop]
          have := (hbound _ _ hlay).2 g hg
          omega) (Nat.zero_le _)
        rw [List.drop_zero] at a1
        refine ⟨ys, a1, by rw [a1.1, hlen], fun g hg => ?_⟩
        have := (a2 g hg).2
        rw [Nat.sub_zero] at this
        exact this

end Go.Ab

namespace Go.Ab
section
variable {P : Program} {f : Nat} {t : TypeId} {xs : List PV}

theorem shape_succ (h : shapeOk P f t xs) : ∃ n, f = n + 1 := by
  cases f with
  | zero => exact h.elim
  | succ n => exact ⟨n, rfl⟩

theorem shape_int {k : IntKind} (hu : P.underlying t = some (.int k)) (h : shapeOk P f t xs) : ∃ n, xs = [.lit (.int k n)] ∧ (Lit.int k n).wf = true := by
  obtain ⟨n, rfl⟩ := shape_succ h
  unfold shapeOk at h
  rw [hu] at h
  exact h

theorem shape_bool (hu : P.underlying t = some .bool) (h : shapeOk P f t xs) : ∃ b, xs = [.lit (.bool b)] := by
  obtain ⟨n, rfl⟩ := shape_succ h
  unfold shapeOk at h
  rw [hu] at h
  exact h

theorem shape_string (hu : P.underlying t = some .string) (h : shapeOk P f t xs) : ∃ s, xs = [.lit (.string s)] ∧ s.size ≤ maxLen := by
  obtain ⟨n, rfl⟩ := shape_succ h
  unfold shapeOk at h
  rw [hu] at h
  exact h

theorem shape_slice {e : TypeId} (hu : P.underlying t = some (.slice e)) (h : shapeOk P f t xs) : ∃ n rows, f = n + 1 ∧ xs = [.sl rows] ∧ rows.length ≤ maxLen ∧ rows.length * P.bytesOf e ≤ reachBytes ∧ ∀ r, r ∈ rows → r.length = P.cellsOf e ∧ shapeOk P n e r := by
  obtain ⟨n, rfl⟩ := shape_succ h
  unfold shapeOk at h
  rw [hu] at h
  obtain ⟨rows, h⟩ := h
  exact ⟨n, rows, rfl, h⟩

theorem shape_struct {fs : Array Field} (hu : P.underlying t = some (.struct fs)) (h : shapeOk P f t xs) : ∃ n, f = n + 1 ∧ xs.length = P.cellsOf t ∧ ∀ g, g ∈ fs.toList → shapeOk P n g.type ((xs.drop g.offset).take (P.cellsOf g.type)) := by
  obtain ⟨n, rfl⟩ := shape_succ h
  unfold shapeOk at h
  rw [hu] at h
  exact ⟨n, rfl, h⟩

theorem shape_array {n : Nat} {e : TypeId} (hu : P.underlying t = some (.array n e)) (h : shapeOk P f t xs) : ∃ m, f = m + 1 ∧ xs.length = n ∧ ∀ y, y ∈ xs → shapeOk P m e [y] := by
  obtain ⟨m, rfl⟩ := shape_succ h
  unfold shapeOk at h
  rw [hu] at h
  exact ⟨m, rfl, h⟩

/-- An argument that is a struct. -/
theorem open_agg {H : Type} {enc : TypeId × Value → H} {W : World} {b0 : Nat} {v : Value} {d : DataW H} {ps : List MemPlace} {fs : Array Field} {l : List TypeId} (hl : closedT P l = true) (ht : t ∈ l) (hu : P.underlying t = some (.struct fs))
    (hval : Value.okWide P W .any b0 t v) (h : DataW.Trod enc P W 0 (fun _ => true) true t v d ps) (hwt : ∀ n ∈ d.weights P t, n ≤ reachBytes) :
    ∃ xs fuel, V (hvOf W) (fun _ => ⟨0, 0, 0, false⟩) [] v (.agg (xs.map .p)) ∧ shapeOk P fuel t xs := by
  unfold Value.okWide at hval
  rw [hu] at hval
  obtain ⟨cs, rfl, _, _⟩ := hval
  obtain ⟨fuel, h⟩ := h
  obtain ⟨xs, ⟨a1, a2⟩, a3⟩ := trod_pv hl fuel t _ _ ht h hwt
  refine ⟨xs, fuel, .agg cs _ (by simpa [Value.cells] using a1.symm) fun i v d h1 h2 => ?_, a3⟩
  rw [List.getElem?_map] at h2
  cases hx : xs[i]? with
  | none => rw [hx] at h2; cases h2
  | some x =>
    rw [hx] at h2; cases h2
    exact .p _ _ (a2 i v x (by simpa [Value.cells] using h1) hx).2

end
end Go.Ab
