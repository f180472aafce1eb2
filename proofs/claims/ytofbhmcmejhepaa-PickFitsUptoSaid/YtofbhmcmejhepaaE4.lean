/- What fits a pattern fits it with any values for its names: told ahead, without a program. -/
import Derived.Test.YtofbhmcmejhepaaE3
import Derived.Test.YtofbhmcmejhepaaAbB
set_option linter.unusedSimpArgs false
set_option linter.unusedVariables false
set_option maxHeartbeats 1000000
namespace Go.Proofs.Ytofbhmcmejhepaa.P
open Go.Ab Go.Proofs.Ytofbhmcmejhepaa.T

theorem c57 : Try.prog.cellsOf 57 = 4 := by kernel_rfl
theorem c55 : Try.prog.cellsOf 55 = 1 := by kernel_rfl
theorem closed5 : closedT Try.prog [3, 9, 32, 34, 41, 43, 45, 55, 57] = true := by kernel_rfl

set_option maxRecDepth 100000 in
theorem sh57 {f : Nat} {xs : List PV} (h : shapeOk Try.prog f 57 xs) : ∃ (q : Pat) (g : Nat), xs = q.row ∧ g < f ∧ q.args.length ≤ maxLen ∧ ∀ r, r ∈ q.args → r.length = 4 ∧ shapeOk Try.prog g 57 r := by
  obtain ⟨m, rfl, hl, hf⟩ := shape_struct Try.underlying57 h
  rw [c57] at hl
  match xs, hl with
  | [a, b, c, d], _ =>
    have h0 := hf _ (List.mem_cons_self)
    have h1 := hf _ (List.mem_cons_of_mem _ List.mem_cons_self)
    have h2 := hf _ (List.mem_cons_of_mem _ (List.mem_cons_of_mem _ List.mem_cons_self))
    have h3 := hf _ (List.mem_cons_of_mem _ (List.mem_cons_of_mem _ (List.mem_cons_of_mem _ List.mem_cons_self)))
    simp only [c3, c9, c55, List.drop_zero, List.drop_succ_cons, List.take_succ_cons, List.take_zero] at h0 h1 h2 h3
    obtain ⟨k, e0, _⟩ := shape_int Try.underlying3 h0
    obtain ⟨n, e1, _⟩ := shape_int Try.underlying3 h1
    obtain ⟨s, e2, _⟩ := shape_string Try.underlying9 h2
    obtain ⟨g, r, hg, e3, e4, e5⟩ := shape_slice Try.underlying55 h3
    simp only [List.cons.injEq, and_true] at e0 e1 e2 e3
    rw [c57] at e5
    exact ⟨⟨k, n, s, r⟩, g, by rw [e0, e1, e2, e3]; rfl, by omega, e4, e5.2⟩

theorem list_of {α : Type} : ∀ (n : Nat) (p : Nat → α → Prop), (∀ i, i < n → ∃ f, p i f) → ∃ l : List α, l.length = n ∧ ∀ (i : Nat) f, l[i]? = some f → p i f
  | 0, _, _ => ⟨[], rfl, fun i f h => by simp at h⟩
  | n + 1, p, h => by
    obtain ⟨f, hf⟩ := h 0 (by omega)
    obtain ⟨l, hl, hp⟩ := list_of n (fun i => p (i + 1)) fun i hi => h (i + 1) (by omega)
    refine ⟨f :: l, by simp [hl], fun i g hg => ?_⟩
    cases i with
    | zero => simp at hg; subst hg; exact hf
    | succ i => exact hp i g (by simpa using hg)

theorem flat_rows : ∀ (Ls : List Found) (args : List (List PV)), Ls.length = args.length → (∀ (i : Nat) x f, args[i]? = some x → Ls[i]? = some f → f.1.length ≤ pvRow x + 1) → (Ls.flatMap (·.1)).length ≤ pvRows args
  | [], args, _, _ => by simp
  | f :: Ls, [], h, _ => by cases h
  | f :: Ls, x :: args, h, hp => by
    have h0 := hp 0 x f rfl rfl
    have h1 := flat_rows Ls args (by simpa using h) fun i x f hx hf => hp (i + 1) x f hx hf
    rw [List.flatMap_cons, List.length_append, pvRows]; omega

theorem rows_len : ∀ (args : List (List PV)), args.length ≤ pvRows args
  | [] => Nat.zero_le _
  | x :: args => by rw [List.length_cons, pvRows]; have := rows_len args; omega

theorem rows_mem : ∀ {args : List (List PV)} {x : List PV}, x ∈ args → pvRow x + 1 ≤ pvRows args
  | y :: args, x, h => by
    rw [pvRows]
    rcases List.mem_cons.1 h with rfl | h
    · omega
    · have := rows_mem h; omega

/-- How the values of a pattern's names stand to the pattern. -/
structure Fitting (xs ys : List PV) (f : Found) : Prop where
  call : ACallP Try.prog 27 [.agg (xs.map .p), .agg (ys.map .p)] (.tup [.p (.sl f.1), bD f.2])
  none : f.2 = false → f.1 = []
  row : ∀ z, z ∈ f.1 → z.length = 4
  len : f.1.length ≤ pvRow xs + 1
  ok : f.2 = true → ∃ qq : Pat, ACallP Try.prog 27 [patD qq, .agg (ys.map .p)] (.tup [.p (.sl []), bD true]) ∧
    ∀ rest : List (List PV), (∀ z, z ∈ rest → z.length = 4) → ACallP Try.prog 28 [.agg (xs.map .p), .p (.sl (f.1 ++ rest))] (.tup [patD qq, .p (.sl rest), bD true])

theorem fitting_flat (q : Pat) (ys : List PV) (b : Bool) (hk : (q.kind == 2) = false) (hk6 : (q.kind != 6) = true)
    (h : ACallP Try.prog 27 [patD q, .agg (ys.map .p)] (.tup [.p (.sl []), bD b])) : Fitting q.row ys ([], b) where
  call := h
  none := fun _ => rfl
  row := fun z hz => by cases hz
  len := Nat.zero_le _
  ok := fun hb => by
    simp only at hb
    subst hb
    exact ⟨q, h, fun rest _ => closedNot q rest hk hk6⟩

theorem parts_empty (n : Nat) : partsR (List.replicate n ([], true)) = ([], true) := by
  unfold partsR
  rw [if_pos (by simp)]
  congr 1
  induction n with
  | zero => rfl
  | succ n ih => rw [List.replicate_succ, List.flatMap_cons, ih]; rfl

theorem fitting_make (q : Pat) (k n : Int) (t : ByteArray) (a : List (List PV)) (Ls : List Found) (hown : ACallP Try.prog 53 [valD k n t a] (valD k n t a)) (hk : q.kind = 6)
    (h : (k != 5 || !(t.toList == q.text.toList) || (a.length : Int) != (q.args.length : Int)) = false) (hq : ∀ r, r ∈ q.args → IsPat r) (ha : ∀ r, r ∈ a → IsVal r) (hl : Ls.length = q.args.length)
    (hsz : pvRow q.row ≤ 1048576) (hF : ∀ (i : Nat) x y f, q.args[i]? = some x → a[i]? = some y → Ls[i]? = some f → Fitting x y f) :
    Fitting q.row [.lit (.int .i64 k), .lit (.int .i64 n), .lit (.string t), .sl a] (partsR Ls) := by
  have hrw : pvRow q.row = pvRows q.args := by simp [Pat.row, pvRow, pvSize]
  have hal : a.length = q.args.length := by simp at h; omega
  have hlen := rows_len q.args
  have hget : ∀ (i : Nat), i < q.args.length → ∃ x y f, q.args[i]? = some x ∧ a[i]? = some y ∧ Ls[i]? = some f := fun i hi => by
    obtain ⟨x, hx⟩ := get_of_lt hi
    obtain ⟨y, hy⟩ := get_of_lt (l := a) (i := i) (by omega)
    obtain ⟨f, hf⟩ := get_of_lt (l := Ls) (i := i) (by omega)
    exact ⟨x, y, f, hx, hy, hf⟩
  have hFm : ∀ f, f ∈ Ls → ∃ x y, x ∈ q.args ∧ Fitting x y f := fun f hf => by
    obtain ⟨i, hi⟩ := List.getElem?_of_mem hf
    have hlt : i < Ls.length := by
      rcases Nat.lt_or_ge i Ls.length with h' | h'
      · exact h'
      · simp [List.getElem?_eq_none h'] at hi
    obtain ⟨x, y, f', h1, h2, h3⟩ := hget i (by omega)
    rw [hi] at h3; cases h3
    exact ⟨x, y, List.mem_of_getElem? h1, hF i x y f h1 h2 hi⟩
  have hrow : ∀ f, f ∈ Ls → ∀ z, z ∈ f.1 → z.length = 4 := fun f hf => by
    obtain ⟨x, y, _, h'⟩ := hFm f hf
    exact h'.row
  have hfl : (Ls.flatMap (·.1)).length ≤ pvRows q.args := flat_rows Ls q.args hl fun i x f hx hf => by
    obtain ⟨x', y, f', h1, h2, h3⟩ := hget i (by
      rcases Nat.lt_or_ge i q.args.length with h' | h'
      · exact h'
      · simp [List.getElem?_eq_none h'] at hx)
    rw [hx] at h1; cases h1; rw [hf] at h3; cases h3
    exact (hF i x y f hx h2 hf).len
  have hm : q.args.length ≤ maxLen := by simp [maxLen]; omega
  have hp := partsYes q k n t a Ls h hq ha hm hl (by omega) hrow fun i x y f hx hy hf => (hF i x y f hx hy hf).call
  have hcall := fitsAt q k n t a (partsR Ls) hown fun _ => hp
  have he : fitS q k n t a (partsR Ls) = partsR Ls := by unfold fitS; rw [hk]; rfl
  rw [he] at hcall
  refine ⟨hcall, fun hb => ?_, fun z hz => ?_, ?_, fun hb => ?_⟩
  · unfold partsR at hb ⊢
    split at hb
    · cases hb
    · rename_i h2; rw [if_neg h2]
  · unfold partsR at hz
    split at hz
    · obtain ⟨f, hf, hz⟩ := List.mem_flatMap.1 hz
      exact hrow f hf z hz
    · cases hz
  · rw [hrw]
    unfold partsR
    split
    · show (Ls.flatMap (·.1)).length ≤ _; omega
    · exact Nat.zero_le _
  · have hall : Ls.all (·.2) = true := by
      unfold partsR at hb
      split at hb
      · assumption
      · cases hb
    have hPe : (partsR Ls).1 = Ls.flatMap (·.1) := by unfold partsR; rw [if_pos hall]
    obtain ⟨qs, hql, hqs⟩ := list_of q.args.length (fun i (qq : Pat) => ∀ x y f, q.args[i]? = some x → a[i]? = some y → Ls[i]? = some f → ACallP Try.prog 27 [patD qq, .agg (y.map .p)] (.tup [.p (.sl []), bD true]) ∧
      ∀ rest : List (List PV), (∀ z, z ∈ rest → z.length = 4) → ACallP Try.prog 28 [.agg (x.map .p), .p (.sl (f.1 ++ rest))] (.tup [patD qq, .p (.sl rest), bD true])) fun i hi => by
        obtain ⟨x, y, f, hx, hy, hf⟩ := hget i hi
        obtain ⟨qq, h1, h2⟩ := (hF i x y f hx hy hf).ok (List.all_eq_true.1 hall f (List.mem_of_getElem? hf))
        refine ⟨qq, fun x' y' f' hx' hy' hf' => ?_⟩
        rw [hx] at hx'; cases hx'; rw [hy] at hy'; cases hy'; rw [hf] at hf'; cases hf'
        exact ⟨h1, h2⟩
    refine ⟨⟨q.kind, 0, q.text, qs.map Pat.row⟩, ?_, fun rest hrest => ?_⟩
    · have hl2 : (qs.map Pat.row).length = q.args.length := by simp [hql]
      have hp2 := partsYes ⟨q.kind, 0, q.text, qs.map Pat.row⟩ k n t a (List.replicate q.args.length ([], true)) (by show (k != 5 || !(t.toList == q.text.toList) || (a.length : Int) != ((qs.map Pat.row).length : Int)) = false; rw [hl2]; exact h)
        (fun r hr => by obtain ⟨p, _, rfl⟩ := List.mem_map.1 hr; exact ⟨p, rfl⟩) ha (by show (qs.map Pat.row).length ≤ maxLen; rw [hl2]; exact hm) (by show _ = (qs.map Pat.row).length; rw [hl2]; simp)
        (by have := parts_empty q.args.length; unfold partsR at this; rw [if_pos (by simp)] at this; have h9 := congrArg Prod.fst this; simp only at h9; rw [h9]; simp) (fun f hf z hz => by obtain ⟨_, rfl⟩ := List.mem_replicate.1 hf; cases hz) (fun i x y f hx hy hf => by
          obtain ⟨_, rfl⟩ := List.mem_replicate.1 (List.mem_of_getElem? hf)
          have hx2 : (qs.map Pat.row)[i]? = some x := hx
          rw [List.getElem?_map] at hx2
          cases hqi : qs[i]? with
          | none => rw [hqi] at hx2; cases hx2
          | some p =>
            rw [hqi] at hx2; cases hx2
            have hi : i < q.args.length := by
              rcases Nat.lt_or_ge i qs.length with h' | h'
              · omega
              · simp [List.getElem?_eq_none h'] at hqi
            obtain ⟨x', y', f', h1, h2, h3⟩ := hget i hi
            rw [hy] at h2; cases h2
            exact (hqs i p hqi x' y f' h1 hy h3).1)
      rw [parts_empty] at hp2
      have hc2 := fitsAt ⟨q.kind, 0, q.text, qs.map Pat.row⟩ k n t a ([], true) hown fun _ => hp2
      have he2 : fitS ⟨q.kind, 0, q.text, qs.map Pat.row⟩ k n t a ([], true) = ([], true) := by unfold fitS; rw [hk]; rfl
      rw [he2] at hc2
      exact hc2
    · have hclo := closedMake q (fun i => (Ls.drop i).flatMap (·.1) ++ rest) qs (by rw [hk]; rfl) (by rw [hk]; rfl) hq (by omega) (by omega) fun i x y hx hy => by
        have hi : i < q.args.length := by
          rcases Nat.lt_or_ge i q.args.length with h' | h'
          · exact h'
          · simp [List.getElem?_eq_none h'] at hx
        obtain ⟨x', y', f', h1, h2, h3⟩ := hget i hi
        rw [hx] at h1; cases h1
        have h4 := (hqs i y hy x y' f' hx h2 h3).2 ((Ls.drop (i + 1)).flatMap (·.1) ++ rest) fun z hz => by
          rcases List.mem_append.1 hz with hz | hz
          · obtain ⟨f, hf, hz⟩ := List.mem_flatMap.1 hz
            exact hrow f (List.mem_of_mem_drop hf) z hz
          · exact hrest z hz
        have hd : Ls.drop i = f' :: Ls.drop (i + 1) := by
          have hlt : i < Ls.length := by omega
          rw [List.getElem?_eq_getElem hlt] at h3
          cases h3
          exact List.drop_eq_getElem_cons hlt
        simp only [hd, List.flatMap_cons, List.append_assoc]
        exact h4
      rw [hPe]
      simp only [List.drop_zero] at hclo
      rw [show (Ls.drop q.args.length) = [] by rw [← hl]; exact List.drop_length] at hclo
      exact hclo

theorem fitting : ∀ (f : Nat) (xs ys : List PV) (g : Nat), shapeOk Try.prog f 57 xs → shapeOk Try.prog g 34 ys → pvRow xs ≤ 1048576 → ∃ F : Found, Fitting xs ys F := by
  intro f
  induction f using Nat.strongRecOn
  rename_i f ih
  intro xs ys g hxs hys hsz
  obtain ⟨q, g1, rfl, hg1, hqm, hqa⟩ := sh57 hxs
  have hys2 := hys
  obtain ⟨k, n, t, a, g2, rfl, hg2, ham, haa⟩ := sh34 hys
  have hown := ownV g k n t a hys2
  have hrw : pvRow q.row = pvRows q.args := by simp [Pat.row, pvRow, pvSize]
  have hq : ∀ r, r ∈ q.args → IsPat r := fun r hr => by
    obtain ⟨p, _, e, _⟩ := sh57 (hqa r hr).2
    exact ⟨p, e⟩
  have ha : ∀ r, r ∈ a → IsVal r := fun r hr => by
    obtain ⟨k', n', t', a', _, e, _⟩ := sh34 (haa r hr).2
    exact ⟨k', n', t', a', e⟩
  by_cases h6 : q.kind = 6
  · cases h : (k != 5 || !(t.toList == q.text.toList) || (a.length : Int) != (q.args.length : Int)) with
    | true =>
      have hcall := fitsAt q k n t a ([], false) hown fun _ => partsNo q k n t a h
      have he : fitS q k n t a ([], false) = ([], false) := by unfold fitS; rw [h6]; rfl
      rw [he] at hcall
      exact ⟨([], false), ⟨hcall, fun _ => rfl, fun z hz => (by cases hz), Nat.zero_le _, fun hb => (by cases hb)⟩⟩
    | false =>
      have hal : a.length = q.args.length := by simp at h; omega
      obtain ⟨Ls, hl, hLs⟩ := list_of q.args.length (fun i (F : Found) => ∀ x y, q.args[i]? = some x → a[i]? = some y → Fitting x y F) fun i hi => by
        obtain ⟨x, hx⟩ := get_of_lt hi
        obtain ⟨y, hy⟩ := get_of_lt (l := a) (i := i) (by omega)
        have hxm := List.mem_of_getElem? hx
        have := rows_mem hxm
        obtain ⟨F, hF⟩ := ih g1 hg1 x y g2 (hqa x hxm).2 (haa y (List.mem_of_getElem? hy)).2 (by omega)
        refine ⟨F, fun x' y' hx' hy' => ?_⟩
        rw [hx] at hx'; cases hx'; rw [hy] at hy'; cases hy'
        exact hF
      exact ⟨partsR Ls, fitting_make q k n t a Ls hown h6 h hq ha hl hsz fun i x y f hx hy hf => hLs i f hf x y hx hy⟩
  · have hcall := fitsAt q k n t a ([], false) hown fun h => absurd h h6
    have e6 : (q.kind == 6) = false := by simpa using h6
    by_cases h2 : q.kind = 2
    · have he : fitS q k n t a ([], false) = ([[.lit (.int .i64 k), .lit (.int .i64 n), .lit (.string t), .sl a]], true) := by unfold fitS; rw [h2]; rfl
      rw [he] at hcall
      refine ⟨([[.lit (.int .i64 k), .lit (.int .i64 n), .lit (.string t), .sl a]], true), ⟨hcall, fun h => (by cases h), fun z hz => (by rw [List.mem_singleton.1 hz]; rfl), by simp, fun _ => ⟨anyP, ?_, fun rest hrest => ?_⟩⟩⟩
      · have hc := fitsAt anyP k n t a ([], false) hown fun h => by cases h
        have he : fitS anyP k n t a ([], false) = ([], true) := rfl
        rw [he] at hc
        exact hc
      · exact closedVar q _ rest (by rw [h2]; rfl) fun y hy => by
          rcases List.mem_cons.1 hy with rfl | hy
          · rfl
          · exact hrest y hy
    · have e2 : (q.kind == 2) = false := by simpa using h2
      have hb : (fitS q k n t a ([], false)).1 = [] := by
        unfold fitS
        rw [e2, e6]
        cases (q.kind == 1) <;> cases (q.kind == 3) <;> cases (q.kind == 4) <;> cases (q.kind == 5) <;> rfl
      rw [hb] at hcall
      exact ⟨_, fitting_flat q _ _ e2 (by simpa using h6) hcall⟩
end Go.Proofs.Ytofbhmcmejhepaa.P
