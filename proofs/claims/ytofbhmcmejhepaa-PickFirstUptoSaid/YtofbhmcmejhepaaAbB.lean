/- Arguments read as data, with a bound on how many rows they have, out of a bound on their bulk. No program is named here. -/
import Derived.Test.YtofbhmcmejhepaaAb24
set_option linter.unusedSimpArgs false
set_option linter.unusedVariables false
set_option maxHeartbeats 1000000
namespace Go.Ab

mutual
/-- How many rows lie in a value. -/
def pvSize : PV → Nat
  | .sl rows => pvRows rows
  | .lit _ => 0
def pvRows : List (List PV) → Nat
  | [] => 0
  | r :: rs => pvRow r + pvRows rs + 1
def pvRow : List PV → Nat
  | [] => 0
  | x :: xs => pvSize x + pvRow xs
end

theorem pvRow_append : ∀ (a b : List PV), pvRow (a ++ b) = pvRow a + pvRow b
  | [], b => by simp [pvRow]
  | x :: a, b => by rw [List.cons_append, pvRow, pvRow, pvRow_append a b]; omega

theorem pvRows_le : ∀ (rows : List (List PV)) (bs : List Nat), rows.length = bs.length → (∀ (i : Nat) r, rows[i]? = some r → pvRow r + 1 ≤ (bs[i]?).getD 0) → pvRows rows ≤ bs.sum
  | [], bs, _, _ => by simp [pvRows]
  | r :: rows, [], h, _ => by cases h
  | r :: rows, b :: bs, h, hr => by
    have h0 := hr 0 r rfl
    have h1 := pvRows_le rows bs (by simpa using h) fun i r' h' => hr (i + 1) r' h'
    simp only [List.getElem?_cons_zero, Option.getD_some] at h0
    rw [pvRows, List.sum_cons]
    omega

theorem pvRow_le : ∀ (ys : List PV) (bs : List Nat), ys.length = bs.length → (∀ (i : Nat) y, ys[i]? = some y → pvRow [y] ≤ (bs[i]?).getD 0) → pvRow ys ≤ bs.sum
  | [], bs, _, _ => by simp [pvRow]
  | y :: ys, [], h, _ => by cases h
  | y :: ys, b :: bs, h, hr => by
    have h0 := hr 0 y rfl
    have h1 := pvRow_le ys bs (by simpa using h) fun i r' h' => hr (i + 1) r' h'
    simp only [List.getElem?_cons_zero, Option.getD_some, pvRow] at h0
    rw [pvRow, List.sum_cons]
    omega

theorem fields_pvB {P : Program} {H : HV} {f : Nat} {cs : List Value} {total : Nat} (hcs : cs.length = total) : ∀ (l : List Field) (bs : List Nat) (o : Nat), lay P total l o = true →
    (∀ (j : Nat) g, l[j]? = some g → ∃ xs b, bs[j]? = some b ∧ pvRow xs ≤ b ∧ cellsPV H ((cs.drop g.offset).take (P.cellsOf g.type)) xs ∧ shapeOk P f g.type xs ∧ xs.length = P.cellsOf g.type) → o ≤ total →
    ∃ xs, pvRow xs ≤ bs.sum ∧ cellsPV H (cs.drop o) xs ∧ ∀ g, g ∈ l → o ≤ g.offset ∧ shapeOk P f g.type ((xs.drop (g.offset - o)).take (P.cellsOf g.type))
  | [], bs, o, hl, _, _ => by
    simp only [lay, beq_iff_eq] at hl
    refine ⟨[], by simp [pvRow], ⟨by simp; omega, fun i v y h1 h2 => by simp at h2⟩, fun g hg => by cases hg⟩
  | g :: l, bs, o, hl, h, ho => by
    simp only [lay, Bool.and_eq_true, beq_iff_eq] at hl
    obtain ⟨hgo, hl⟩ := hl
    obtain ⟨xs, b, hb0, hb1, ⟨a1, a2⟩, a3, a4⟩ := h 0 g rfl
    obtain ⟨bs, rfl⟩ : ∃ r, bs = b :: r := by cases bs with
      | nil => cases hb0
      | cons c r => cases hb0; exact ⟨r, rfl⟩
    rw [hgo] at a1 a2
    have hsz : o + P.cellsOf g.type ≤ total := by
      simp only [List.length_take, List.length_drop] at a1
      rw [a4] at a1
      omega
    obtain ⟨ys, hb2, ⟨b1, b2⟩, b3⟩ := fields_pvB hcs l bs (o + P.cellsOf g.type) hl (fun j g' hg' => h (j + 1) g' hg') hsz
    refine ⟨xs ++ ys, by rw [pvRow_append, List.sum_cons]; omega, ⟨?_, fun i v y h1 h2 => ?_⟩, fun g' hg' => ?_⟩
    · simp only [List.length_append, a4, b1, List.length_drop]; omega
    · rw [List.getElem?_drop] at h1
      by_cases hi : i < P.cellsOf g.type
      · rw [List.getElem?_append_left (by omega)] at h2
        exact a2 i v y (by rw [List.getElem?_take, if_pos hi, List.getElem?_drop]; exact h1) h2
      · rw [List.getElem?_append_right (by omega)] at h2
        exact b2 (i - xs.length) v y (by rw [List.getElem?_drop]; rw [show o + P.cellsOf g.type + (i - xs.length) = o + i by omega]; exact h1) h2
    · rcases List.mem_cons.1 hg' with rfl | hg'
      · refine ⟨by omega, ?_⟩
        rw [hgo, Nat.sub_self, List.drop_zero, List.take_append_of_le_length (by omega), List.take_of_length_le (by omega)]
        exact a3
      · obtain ⟨c1, c2⟩ := b3 g' hg'
        refine ⟨by omega, ?_⟩
        rw [List.drop_append, List.drop_of_length_le (by omega), List.nil_append]
        rw [show g'.offset - o - xs.length = g'.offset - (o + P.cellsOf g.type) by omega]
        exact c2

theorem trod_pvB {P : Program} {w : World} {H : Type} {enc : TypeId × Value → H} {sp : Nat → Bool} {l : List TypeId} {bu : DataW H → Nat} (hb1 : ∀ d, 1 ≤ bu d) (hbs : ∀ e s, (e.map bu).sum + 1 ≤ bu (.slice e s)) (hba : ∀ e, (e.map bu).sum + 1 ≤ bu (.agg e)) (hl : closedT P l = true) : ∀ (fuel : Nat) (t : TypeId) (cs : List Value) (x : DataW H × List MemPlace), t ∈ l →
    DataW.trod enc P w 0 sp true fuel t cs = some x → (∀ n ∈ x.1.weights P t, n ≤ reachBytes) → ∃ xs, pvRow xs + 1 ≤ bu x.1 ∧ cellsPV (hvOf w) cs xs ∧ shapeOk P fuel t xs
  | 0, t, cs, x, ht, h, _ => by simp [DataW.trod] at h
  | fuel + 1, t, cs, x, ht, h, hwt => by
    have hc := List.all_eq_true.1 hl t ht
    unfold shapeOk
    cases hu : P.underlying t with
    | none => rw [hu] at hc; cases hc
    | some dsc =>
      rw [hu] at hc
      cases dsc <;> dsimp only at hc ⊢ <;> try (cases hc; done)
      case bool =>
        obtain ⟨b, rfl, _⟩ := DataW.trod_bool hu h
        exact ⟨_, by simpa [pvRow, pvSize, pvRows] using hb1 _, cellsPV_one rfl (.lit _), b, rfl⟩
      case int k =>
        obtain ⟨n, rfl, _, hw⟩ := DataW.trod_int hu h
        exact ⟨_, by simpa [pvRow, pvSize, pvRows] using hb1 _, cellsPV_one rfl (.lit _), n, rfl, hw⟩
      case string =>
        obtain ⟨s, rfl, _, hs⟩ := DataW.trod_string hu h
        exact ⟨_, by simpa [pvRow, pvSize, pvRows] using hb1 _, cellsPV_one rfl (.lit _), s, rfl, hs⟩
      case slice e =>
        simp only [Bool.and_eq_true, List.contains_iff_mem, decide_eq_true_eq] at hc
        obtain ⟨he, hpos⟩ := hc
        rcases DataW.trod_slice hu h with ⟨rfl, _⟩ | ⟨a, len, cap, elems, rest, n, hn, rfl, rfl, _, hcap, hmax, hlen, hel, _, _⟩
        · exact ⟨_, by simpa [pvRow, pvSize, pvRows] using hb1 _, cellsPV_one rfl (.none _ _), [], rfl, Nat.zero_le _, by simp, fun r hr => by cases hr⟩
        · obtain rfl : fuel = n := by omega
          have hwl : ((elems.map (·.1)).length + (rest.map (·.1)).length) * P.bytesOf e ≤ reachBytes := hwt _ (by simp [DataW.weights, hu])
          have hwe : ∀ y, y ∈ elems → ∀ n ∈ y.1.weights P e, n ≤ reachBytes := fun y hy n hn => hwt n (by
            simp only [DataW.weights, hu, List.mem_cons, List.mem_append]
            exact .inr (.inl (weights_all (List.mem_map.2 ⟨y, hy, rfl⟩) n hn)))
          have hwb : len * P.bytesOf e ≤ reachBytes := by
            rw [← hlen]
            exact Nat.le_trans (Nat.mul_le_mul_right _ (by simp)) hwl
          by_cases h0 : len = 0
          · subst h0
            exact ⟨_, by simpa [pvRow, pvSize, pvRows] using hb1 _, cellsPV_one rfl (.none _ _), [], rfl, Nat.zero_le _, by simp, fun r hr => by cases hr⟩
          have each : ∀ i, i < len → ∃ ci r, w.cells? 0 (a.add (i * P.cellsOf e)) (P.cellsOf e) = some ci ∧ pvRow r + 1 ≤ (((elems.map (·.1)).map bu)[i]?).getD 0 ∧ cellsPV (hvOf w) ci r ∧ shapeOk P fuel e r := fun i hi => by
            have h1 := hel i hi
            rw [List.getElem?_eq_getElem (by omega)] at h1
            cases hci : w.cells? 0 (a.add (i * P.cellsOf e)) (P.cellsOf e) with
            | none => rw [hci] at h1; cases h1
            | some ci =>
              rw [hci] at h1
              obtain ⟨r, g0, g1, g2⟩ := trod_pvB hb1 hbs hba hl fuel e ci _ he h1 (hwe _ (List.getElem_mem _))
              exact ⟨ci, r, rfl, by rw [List.getElem?_map, List.getElem?_map, List.getElem?_eq_getElem (by omega)]; exact g0, g1, g2⟩
          have cellsAt : ∀ {i : Nat} {ci : List Value}, w.cells? 0 (a.add (i * P.cellsOf e)) (P.cellsOf e) = some ci → ci.length = P.cellsOf e ∧ ∀ (j : Nat) v, ci[j]? = some v → w.cell? ((a.add (i * P.cellsOf e)).add j) = some v := fun {i ci} hci => by
            unfold World.cells? at hci
            rw [if_pos (Nat.zero_le _)] at hci
            obtain ⟨g1, g2⟩ := mapM_get hci
            refine ⟨by simpa using g1, fun j v hv => ?_⟩
            have hj : j < P.cellsOf e := by
              rcases Nat.lt_or_ge j ci.length with h' | h'
              · simp at g1; omega
              · simp [List.getElem?_eq_none h'] at hv
            rw [← hv]
            exact g2 j j (by simp [hj])
          have hspot : a.spot = none := by
            obtain ⟨ci, r, hci, _, _, _⟩ := each 0 (by omega)
            obtain ⟨g1, g2⟩ := cellsAt hci
            have := g2 0 ci[0] (List.getElem?_eq_getElem (by omega))
            unfold World.cell? at this
            split at this
            · split at this
              · cases this
              · rename_i hs
                cases hsp : a.spot with
                | none => rfl
                | some k => simp [Addr.add, hsp] at hs
            · cases this
          obtain ⟨ab, ao, asp⟩ := a
          simp only at hspot
          subst hspot
          have hblock : ∃ c, hvOf w ab = some c ∧ ∀ (k : Nat) v, w.cell? ⟨ab, k, none⟩ = some v → c[k]? = some v := by
            obtain ⟨ci, r, hci, _, _, _⟩ := each 0 (by omega)
            obtain ⟨g1, g2⟩ := cellsAt hci
            have := g2 0 ci[0] (List.getElem?_eq_getElem (by omega))
            rw [Addr.add_lit, Addr.add_lit] at this
            unfold World.cell? at this
            unfold hvOf
            split at this
            · rename_i c e' f hw
              have hw' : w.heap[ab]? = some (.cells c e' f) := hw
              rw [hw']
              refine ⟨c, rfl, fun k v hv => ?_⟩
              simpa [World.cell?, hw'] using hv
            · cases this
          obtain ⟨c, hc1, hc2⟩ := hblock
          let row : Nat → List PV := fun i => if hi : i < len then Classical.choose (Classical.choose_spec (each i hi)) else []
          have hrow : ∀ i, i < len → ∃ ci, w.cells? 0 ((⟨ab, ao, none⟩ : Addr).add (i * P.cellsOf e)) (P.cellsOf e) = some ci ∧ pvRow (row i) + 1 ≤ (((elems.map (·.1)).map bu)[i]?).getD 0 ∧ cellsPV (hvOf w) ci (row i) ∧ shapeOk P fuel e (row i) := fun i hi => by
            refine ⟨Classical.choose (each i hi), ?_⟩
            have := Classical.choose_spec (Classical.choose_spec (each i hi))
            simp only [row, dif_pos hi]
            exact this
          let rows := (List.range len).map row
          have hrl : rows.length = len := by simp [rows]
          have hget : ∀ (i : Nat) r, rows[i]? = some r → i < len ∧ r = row i := fun i r hr => by
            simp only [rows, List.getElem?_map] at hr
            rcases Nat.lt_or_ge i len with hi | hi
            · simp [hi] at hr; exact ⟨hi, hr.symm⟩
            · simp [List.getElem?_eq_none (show (List.range len).length ≤ i by simpa using hi)] at hr
          have hlenr : ∀ i, i < len → (row i).length = P.cellsOf e := fun i hi => by
            obtain ⟨ci, g1, _, g2, _⟩ := hrow i hi
            rw [g2.1, (cellsAt g1).1]
          have hcell : ∀ (i : Nat) r, rows[i]? = some r → ∀ (j : Nat) y, r[j]? = some y → ∃ v, c[ao + i * P.cellsOf e + j]? = some v ∧ v.oneCell' = true ∧ PVr (hvOf w) v y := fun i r hr j y hy => by
            obtain ⟨hi, rfl⟩ := hget i r hr
            obtain ⟨ci, g1, _, g2, _⟩ := hrow i hi
            obtain ⟨k1, k2⟩ := cellsAt g1
            have hj : j < ci.length := by
              rcases Nat.lt_or_ge j (row i).length with h' | h'
              · rw [g2.1] at h'; exact h'
              · simp [List.getElem?_eq_none h'] at hy
            have hv := k2 j ci[j] (List.getElem?_eq_getElem hj)
            rw [Addr.add_lit, Addr.add_lit] at hv
            refine ⟨ci[j], hc2 _ _ hv, (g2.2 j _ y (List.getElem?_eq_getElem hj) hy).1, (g2.2 j _ y (List.getElem?_eq_getElem hj) hy).2⟩
          have hpv := PVr.sl (H := hvOf w) ab ao cap (P.cellsOf e) c rows (fun i j => (c[ao + i * P.cellsOf e + j]?).getD undef) hc1
            (fun r hr => by
              obtain ⟨i, hi⟩ := List.getElem?_of_mem hr
              obtain ⟨h1, rfl⟩ := hget i r hi
              exact hlenr i h1) (by omega)
            (fun i r hr j y hy => by obtain ⟨v, a1, _⟩ := hcell i r hr j y hy; rw [a1]; rfl)
            (fun i r hr j y hy => by obtain ⟨v, a1, a2, _⟩ := hcell i r hr j y hy; rw [a1]; exact a2)
            (fun i r hr j y hy => by obtain ⟨v, a1, _, a3⟩ := hcell i r hr j y hy; rw [a1]; exact a3)
          rw [hrl] at hpv
          refine ⟨_, ?_, cellsPV_one rfl hpv, rows, rfl, by omega, by rw [hrl]; exact hwb, fun r hr => ?_⟩
          · have h1 : pvRows rows ≤ ((elems.map (·.1)).map bu).sum := pvRows_le rows _ (by simp [hrl, hlen]) fun i r hr => by
              obtain ⟨h1, rfl⟩ := hget i r hr
              obtain ⟨_, _, g, _⟩ := hrow i h1
              exact g
            have h2 := hbs (elems.map (·.1)) (rest.map (·.1))
            show pvSize (.sl rows) + pvRow [] + 1 ≤ _
            simp only [pvSize, pvRow]
            omega
          obtain ⟨i, hi⟩ := List.getElem?_of_mem hr
          obtain ⟨h1, rfl⟩ := hget i r hi
          obtain ⟨ci, _, _, _, g3⟩ := hrow i h1
          exact ⟨hlenr i h1, g3⟩
      case array n e =>
        simp only [Bool.and_eq_true, List.contains_iff_mem, beq_iff_eq] at hc
        obtain ⟨⟨he, h1⟩, hn⟩ := hc
        obtain ⟨xs, m, hm, rfl, hlen, hsz, hf⟩ := DataW.trod_array hu h
        obtain rfl : fuel = m := by omega
        rw [hn] at hlen
        have each : ∀ i, i < n → ∃ v y, cs[i]? = some v ∧ pvRow [y] + 1 ≤ (((xs.map (·.1)).map bu)[i]?).getD 0 ∧ v.oneCell' = true ∧ PVr (hvOf w) v y ∧ shapeOk P fuel e [y] := fun i hi => by
          have g1 := hf i hi
          rw [h1, Nat.mul_one, List.getElem?_eq_getElem (by omega)] at g1
          have hcs : (cs.drop i).take 1 = [cs[i]] := by
            rw [List.drop_eq_getElem_cons (by omega), List.take_succ_cons, List.take_zero]
          rw [hcs] at g1
          obtain ⟨r, a0, ⟨a1, a2⟩, a3⟩ := trod_pvB hb1 hbs hba hl fuel e _ _ he g1 (fun k hk => hwt k (by
            simp only [DataW.weights, hu]
            exact weights_all (List.mem_map.2 ⟨_, List.getElem_mem _, rfl⟩) k hk))
          match r, a0, a1, a2, a3 with
          | [y], a0, _, a2, a3 => exact ⟨cs[i], y, List.getElem?_eq_getElem (by omega), by rw [List.getElem?_map, List.getElem?_map, List.getElem?_eq_getElem (by omega)]; exact a0, (a2 0 _ _ rfl rfl).1, (a2 0 _ _ rfl rfl).2, a3⟩
        let f : Nat → PV := fun i => if hi : i < n then Classical.choose (Classical.choose_spec (each i hi)) else .sl []
        have hfi : ∀ i, i < n → ∃ v, cs[i]? = some v ∧ pvRow [f i] + 1 ≤ (((xs.map (·.1)).map bu)[i]?).getD 0 ∧ v.oneCell' = true ∧ PVr (hvOf w) v (f i) ∧ shapeOk P fuel e [f i] := fun i hi => by
          refine ⟨Classical.choose (each i hi), ?_⟩
          have := Classical.choose_spec (Classical.choose_spec (each i hi))
          simp only [f, dif_pos hi]
          exact this
        refine ⟨(List.range n).map f, ?_, ⟨by simp [hlen], fun i v y hv hy => ?_⟩, by simp, fun y hy => ?_⟩
        · have h2 := hba (xs.map (·.1))
          have h3 := pvRow_le ((List.range n).map f) ((xs.map (·.1)).map bu) (by simp; omega) fun i y hy => by
            have hi : i < n := by
              rcases Nat.lt_or_ge i n with h' | h'
              · exact h'
              · simp [List.getElem?_eq_none (show (List.range n).length ≤ i by simpa using h')] at hy
            rw [List.getElem?_map, List.getElem?_range hi] at hy
            cases hy
            obtain ⟨_, _, g, _⟩ := hfi i hi
            omega
          show pvRow _ + 1 ≤ bu (.agg _)
          omega
        · have hi : i < n := by
            rcases Nat.lt_or_ge i cs.length with h' | h'
            · omega
            · simp [List.getElem?_eq_none h'] at hv
          rw [List.getElem?_map, List.getElem?_range hi] at hy
          cases hy
          obtain ⟨v', b1, _, b2, b3, _⟩ := hfi i hi
          rw [b1] at hv; cases hv
          exact ⟨b2, b3⟩
        · obtain ⟨i, hi, rfl⟩ := List.mem_map.1 hy
          obtain ⟨_, _, _, _, _, b4⟩ := hfi i (List.mem_range.1 hi)
          exact b4
      case struct fs =>
        simp only [Bool.and_eq_true, List.all_eq_true, List.contains_iff_mem] at hc
        obtain ⟨hin, hlay⟩ := hc
        obtain ⟨xs, n, hn, rfl, hlen, hsz, hf⟩ := DataW.trod_struct hu h
        obtain rfl : fuel = n := by omega
        have hbound : ∀ (l' : List Field) (o : Nat), lay P (P.cellsOf t) l' o = true → o ≤ P.cellsOf t ∧ ∀ g, g ∈ l' → g.offset + P.cellsOf g.type ≤ P.cellsOf t := by
          intro l'
          induction l' with
          | nil => intro o ho; simp only [lay, beq_iff_eq] at ho; exact ⟨by omega, fun g hg => by cases hg⟩
          | cons g l' ih =>
            intro o ho
            simp only [lay, Bool.and_eq_true, beq_iff_eq] at ho
            obtain ⟨k1, k2⟩ := ih _ ho.2
            refine ⟨by omega, fun g' hg' => ?_⟩
            rcases List.mem_cons.1 hg' with rfl | hg'
            · omega
            · exact k2 g' hg'
        obtain ⟨ys, a0, a1, a2⟩ := fields_pvB (P := P) (H := hvOf w) (f := fuel) hlen fs.toList ((xs.map (·.1)).map bu) 0 hlay (fun i g hi => by
          have hg := List.mem_of_getElem? hi
          rw [Array.getElem?_toList] at hi
          have h1 := hf i g hi
          have hi2 : i < fs.size := by
            rcases Nat.lt_or_ge i fs.size with h' | h'
            · exact h'
            · simp [Array.getElem?_eq_none h'] at hi
          rw [List.getElem?_eq_getElem (by omega)] at h1
          obtain ⟨r, g0, g1, g2⟩ := trod_pvB hb1 hbs hba hl fuel g.type _ _ (hin g hg) h1 (fun n hn => hwt n (by
            simp only [DataW.weights, hu]
            exact DataW.weights_mem_each (j := i) (by simp [hi]) (by rw [List.getElem?_map, List.getElem?_eq_getElem (by omega)]; rfl) n hn))
          refine ⟨r, _, by rw [List.getElem?_map, List.getElem?_map, List.getElem?_eq_getElem (by omega)]; rfl, Nat.le_of_succ_le g0, g1, g2, ?_⟩
          rw [g1.1, List.length_take, List.length_drop]
          have := (hbound _ _ hlay).2 g hg
          omega) (Nat.zero_le _)
        rw [List.drop_zero] at a1
        refine ⟨ys, Nat.le_trans (Nat.succ_le_succ a0) (hba _), a1, by rw [a1.1, hlen], fun g hg => ?_⟩
        have := (a2 g hg).2
        rw [Nat.sub_zero] at this
        exact this


/-- An argument that is a struct. -/
theorem open_aggB {P : Program} {t : TypeId} {H : Type} {bu : DataW H → Nat} (hb1 : ∀ d, 1 ≤ bu d) (hbs : ∀ e s, (e.map bu).sum + 1 ≤ bu (.slice e s)) (hba : ∀ e, (e.map bu).sum + 1 ≤ bu (.agg e)) {enc : TypeId × Value → H} {W : World} {b0 : Nat} {v : Value} {d : DataW H} {ps : List MemPlace} {fs : Array Field} {l : List TypeId} (hl : closedT P l = true) (ht : t ∈ l) (hu : P.underlying t = some (.struct fs))
    (hval : Value.okWide P W .any b0 t v) (h : DataW.Trod enc P W 0 (fun _ => true) true t v d ps) (hwt : ∀ n ∈ d.weights P t, n ≤ reachBytes) :
    ∃ xs fuel, V (hvOf W) (fun _ => ⟨0, 0, 0, false⟩) [] v (.agg (xs.map .p)) ∧ shapeOk P fuel t xs ∧ pvRow xs + 1 ≤ bu d := by
  unfold Value.okWide at hval
  rw [hu] at hval
  obtain ⟨cs, rfl, _, _⟩ := hval
  obtain ⟨fuel, h⟩ := h
  obtain ⟨xs, a0, ⟨a1, a2⟩, a3⟩ := trod_pvB hb1 hbs hba hl fuel t _ _ ht h hwt
  refine ⟨xs, fuel, .agg cs _ (by simpa [Value.cells] using a1.symm) fun i v d h1 h2 => ?_, a3, a0⟩
  rw [List.getElem?_map] at h2
  cases hx : xs[i]? with
  | none => rw [hx] at h2; cases h2
  | some x =>
    rw [hx] at h2; cases h2
    exact .p _ _ (a2 i v x (by simpa [Value.cells] using h1) hx).2


/-- An argument that is a slice. -/
theorem open_sliceB {P : Program} {t : TypeId} {H : Type} {bu : DataW H → Nat} (hb1 : ∀ d, 1 ≤ bu d) (hbs : ∀ e s, (e.map bu).sum + 1 ≤ bu (.slice e s)) (hba : ∀ e, (e.map bu).sum + 1 ≤ bu (.agg e)) {enc : TypeId × Value → H} {W : World} {b0 : Nat} {v : Value} {d : DataW H} {ps : List MemPlace} {e : TypeId} {l : List TypeId} (hl : closedT P l = true) (ht : t ∈ l) (hu : P.underlying t = some (.slice e))
    (hval : Value.okWide P W .any b0 t v) (h : DataW.Trod enc P W 0 (fun _ => true) true t v d ps) (hwt : ∀ n ∈ d.weights P t, n ≤ reachBytes) :
    ∃ x fuel, V (hvOf W) (fun _ => ⟨0, 0, 0, false⟩) [] v (.p x) ∧ shapeOk P fuel t [x] ∧ pvRow [x] + 1 ≤ bu d := by
  obtain ⟨a, len, cap, rfl⟩ := Go.WideShapes.okWide_slice hu hval
  obtain ⟨fuel, h⟩ := h
  obtain ⟨xs, a0, ⟨a1, a2⟩, a3⟩ := trod_pvB hb1 hbs hba hl fuel t _ _ ht h hwt
  have hx : xs.length = 1 := by rw [a1]; rfl
  match xs, hx with
  | [x], _ => exact ⟨x, fuel, .p _ _ (a2 0 _ _ rfl rfl).2, a3, a0⟩

end Go.Ab
