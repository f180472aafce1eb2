/- Texts of this proof, joined: AbK, H3, H4, H5, H6, H7, H8, H9, H10, H11, H12, H13, H15, Y1. -/
import Derived.Test.YtagphggcdmjlpaaKYoungKeeps2
import Derived.Laws.Bits64b
import Derived.Laws.BitsLemmas
set_option linter.unusedSimpArgs false
set_option linter.unusedVariables false
set_option maxHeartbeats 1000000
/- A row that is handed out shorter than it lies there. No program is named here. -/
namespace Go.Ab

theorem ACalls.short {P : Program} {f : FuncId} {args : List D} {o0 : Ob} {s : Nat} {ys zs : List (List PV)}
    (h : ACalls P f args [o0] (fun r obs' => r = .ref 0 0 ys.length ∧ obs' = [.row s (ys ++ zs)])) :
    ACalls P f args [o0] (fun r obs' => r = .ref 1 0 ys.length ∧ obs' = [.dead, .row s ys]) := by
  intro H loc w vs h1 h2 h3
  refine (h H loc w vs h1 h2 h3).mono fun e w' ⟨v, H', loc', r, obs', ⟨hr, ho⟩, he, hv, hsr, hg, hown, _⟩ => ?_
  subst hr ho
  refine ⟨v, H', fun i => if i = 1 then loc' 0 else loc' i, .ref 1 0 ys.length, [.dead, .row s ys], ⟨rfl, rfl⟩, he, ?_, ⟨hsr.heap, ?_, ?_, ?_⟩, hg, ?_, ?_⟩
  · generalize hd : D.ref 0 0 ys.length = d at hv
    cases hv <;> try (cases hd; done)
    case refGone ho =>
      cases hd
      simp at ho
    case ref0 a id off s' xs' ho hl =>
      injection hd with e1 e2 e3
      rw [e3]
      exact .ref0 a 1 0 s ys rfl e3.symm
    case ref id off len c s' xs' ho hl hc hx hr hn =>
      injection hd with e1 e2 e3
      subst e1 e2 e3
      obtain ⟨rfl, rfl⟩ := Ob.row.inj (Option.some.inj ho)
      exact V.ref (loc := fun i => if i = 1 then loc' 0 else loc' i) 1 0 ys.length c s ys rfl (by omega) hc (by omega) hr hn
  · intro i o ho
    match i, ho with
    | 0, ho => cases ho; trivial
    | 1, ho =>
      cases ho
      rcases hsr.obj 0 _ rfl with ⟨a1, a2⟩ | ⟨a0, c, e, a1, a2, a3, a4, a5⟩
      · exact .inl ⟨a1, (List.append_eq_nil_iff.1 a2).1⟩
      · refine .inr ⟨a0, c, e, a1, a2, ?_, fun x hx => a4 x (List.mem_append_left _ hx), fun i x hx => a5 i x ?_⟩
        · have : ys.length * s ≤ (ys ++ zs).length * s := Nat.mul_le_mul_right s (by simp)
          show (loc' 0).o + ys.length * s ≤ (loc' 0).n
          omega
        · rw [List.getElem?_append_left (lt_of_get hx)]; exact hx
    | i + 2, ho => simp at ho
  · intro i o ho hl hr
    match i, ho with
    | 0, ho => cases ho; cases hl
    | 1, ho => exact hsr.apart 0 _ rfl rfl hr
    | i + 2, ho => simp at ho
  · intro i j o o' hi hj hli hlj _ _ _
    match i, hi, j, hj with
    | 0, hi, _, _ => cases hi; cases hli
    | 1, _, 0, hj => cases hj; cases hlj
    | 1, _, 1, _ => rfl
    | 1, _, j + 2, hj => simp at hj
    | i + 2, hi, _, _ => simp at hi
  · intro i o ho hl hr
    match i, ho with
    | 0, ho => cases ho; cases hl
    | 1, ho => exact hown 0 _ rfl rfl hr
    | i + 2, ho => simp at ho
  · intro k o ho
    match k, ho with
    | 0, _ => exact .inl rfl
    | k + 1, ho => simp at ho

/-- A clone of nothing is an empty row. -/
theorem ACalls.born {P : Program} {f : FuncId} {args : List D} {s : Nat} {xs : List (List PV)}
    (h : ACalls P f args [] (fun r obs' => (r = .ref 0 0 xs.length ∧ obs' = [.row s xs]) ∨ (xs = [] ∧ r = .nil ∧ obs' = []))) :
    ACalls P f args [] (fun r obs' => r = .ref 0 0 xs.length ∧ obs' = [.row s xs]) := by
  intro H loc w vs h1 h2 h3
  refine (h H loc w vs h1 h2 h3).mono fun e w' ⟨v, H', loc', r, obs', hq, he, hv, hsr, hg, hown, hst⟩ => ?_
  rcases hq with ⟨hr, ho⟩ | ⟨hx, hr, ho⟩
  · exact ⟨v, H', loc', r, obs', ⟨hr, ho⟩, he, hv, hsr, hg, hown, hst⟩
  · subst hr ho hx
    refine ⟨v, H', fun _ => ⟨0, 0, 0, false⟩, .ref 0 0 0, [.row s []], ⟨rfl, rfl⟩, he, ?_, ⟨hsr.heap, ?_, ?_, ?_⟩, hg, ?_, ?_⟩
    · cases hv
      exact .ref0 _ 0 0 s [] rfl rfl
    · intro i o ho
      match i, ho with
      | 0, ho => cases ho; exact .inl ⟨rfl, rfl⟩
      | i + 1, ho => simp at ho
    · intro i o ho hl hr; cases hr
    · intro i j o o' hi hj hli hlj hr; cases hr
    · intro i o ho hl hr; cases hr
    · intro k o ho; simp at ho
end Go.Ab

/- The object at a place of a heap: a contract. -/
namespace Go.Proofs.Ytagphggcdmjlpaa.P
open Go.Ab Go.Proofs.Ytagphggcdmjlpaa.T

def eqI (x y : Int) : Bool := x == y
theorem eqI_iff (x y : Int) : eqI x y = true ↔ x = y := by simp [eqI]

theorem equalW (a b : List Int) (ha : a.length ≤ maxLen) : ACallP Try.prog 18 [words a, words b] (bD (listEq eqI a b)) := by
  refine acallp_fn [4] Try.func18 rfl rfl Try.ntmps18 (by simp) fun R hR => ?_
  (refine awp_reg_seq [0, 1] fun K hK => ?_; (repeat' ((refine al_r rfl fun K' hK' => ?_); (repeat (simp only [go_sem, simprocAttr, List.length_map])); ((refine hK' _ _ ?_) <;> clear hK' K'))); all_goals (refine al_nil ?_; (simp only [go_sem, simprocAttr, List.length_map]); refine hK _ ?_; clear hK K))
  refine awp_seq_k fun K hK => ?_
  (refine awp_reg_seq [0, 1, 10] fun K hK => ?_; (repeat' ((refine al_r rfl fun K' hK' => ?_); (repeat (simp only [go_sem, simprocAttr, List.length_map])); ((first | refine hK' _ _ ?_ | refine ⟨?_, hK' _ _ ?_⟩) <;> clear hK' K' <;> (first | (show alist _ _ _ _ _ _; skip) | (intro s hs; cases hs; done))))); all_goals (refine al_nil ?_; (simp only [go_sem, simprocAttr, List.length_map]); refine hK _ ?_; clear hK K))
  refine awp_if (_) rfl (fun hc => ?_) (fun hc => ?_)
  · have hl : a.length ≠ b.length := by
      intro e; rw [e] at hc; simp at hc
    rw [listEq_len hl] at hR
    (refine awp_reg_seq [4] fun K hK => ?_; (repeat' ((refine al_r rfl fun K' hK' => ?_); (repeat (simp only [go_sem, simprocAttr, List.length_map])); ((refine hK' _ _ ?_) <;> clear hK' K'))); all_goals (refine al_nil ?_; (simp only [go_sem, simprocAttr, List.length_map]); refine hK _ ?_; clear hK K))
    refine awp_ret ?_; (refine hR _ _ (.inl rfl) rfl ?_)
    simp only [go_sem, simprocAttr, List.length_map]
  · have hl : a.length = b.length := by
      have : ((a.length : Int) != b.length) = false := hc
      simp at this; omega
    refine awp_skip ?_
    refine hK _ ?_; clear hK K
    refine awp_seq_k fun K hK => ?_
    (refine awp_reg_seq [0, 1, 12, 13] fun K hK => ?_; (repeat' ((refine al_r rfl fun K' hK' => ?_); (repeat (simp only [go_sem, simprocAttr, List.length_map])); ((first | refine hK' _ _ ?_ | refine ⟨?_, hK' _ _ ?_⟩) <;> clear hK' K' <;> (first | (show alist _ _ _ _ _ _; skip) | (intro s hs; cases hs; done))))); all_goals (refine al_nil ?_; (simp only [go_sem, simprocAttr, List.length_map]); refine hK _ ?_; clear hK K))
    refine awp_block ?_
    refine awp_loop (fun m s => ∃ i : Nat, i ≤ a.length ∧ m = a.length - i ∧ (∀ (j : Nat) x y, j < i → a[j]? = some x → b[j]? = some y → eqI x y = true) ∧ s = ⟨ofL [(0, words a), (1, words b), (12, iD a.length), (13, iD i)], [], 0⟩) ⟨_, 0, Nat.zero_le _, rfl, fun j _ _ hj => absurd hj (by omega), rfl⟩ ?_
    rintro m s ⟨i, hi, rfl, hbefore, rfl⟩
    (refine awp_reg_seq [0, 1, 12, 13, 14] fun K hK => ?_; (repeat' ((refine al_r rfl fun K' hK' => ?_); (repeat (simp only [go_sem, simprocAttr, List.length_map])); ((refine hK' _ _ ?_) <;> clear hK' K'))); all_goals (refine al_nil ?_; (simp only [go_sem, simprocAttr, List.length_map]); refine hK _ ?_; clear hK K))
    refine awp_seq_k fun K hK => ?_
    refine awp_if (decide ((i : Int) < a.length)) rfl (fun hc => ?_) (fun hc => ?_)
    · refine awp_skip ?_
      refine hK _ ?_; clear hK K
      have hi2 : i < a.length := by simpa using hc
      obtain ⟨x, hx⟩ := get_of_lt hi2
      obtain ⟨y, hy⟩ := get_of_lt (l := b) (i := i) (by omega)
      have hnn : (0 : Int) ≤ (i : Int) := Int.natCast_nonneg i

      refine awp_seq_k fun K hK => ?_
      refine awp_block ?_
      (refine awp_reg_seq [0, 1, 5, 12, 13] fun K hK => ?_; (repeat' ((refine al_r rfl fun K' hK' => ?_); (repeat (simp only [go_sem, simprocAttr, hx, hy, hnn, List.length_map, List.getElem?_map, Int.toNat_natCast, Option.map_some, List.length_map])); ((refine hK' _ _ ?_) <;> clear hK' K'))); all_goals (refine al_nil ?_; (simp only [go_sem, simprocAttr, hx, hy, hnn, List.length_map, List.getElem?_map, Int.toNat_natCast, Option.map_some, List.length_map]); refine hK _ ?_; clear hK K))
      refine awp_draw_seq (by kernel_rfl) [0, 1, 12, 13, 24] fun K hK => ?_
      ((refine ah_r 0 rfl (by kernel_rfl) rfl fun K' hK' => ?_); (simp only [go_sem, simprocAttr, hx, hy, hnn, List.length_map, List.getElem?_map, Int.toNat_natCast, Option.map_some, List.length_map]); ((refine hK' _ ?_); clear hK' K'))
      ((refine ah_r 1 rfl (by kernel_rfl) rfl fun K' hK' => ?_); (simp only [go_sem, simprocAttr, hx, hy, hnn, List.length_map, List.getElem?_map, Int.toNat_natCast, Option.map_some, List.length_map]); ((refine hK' _ ?_); clear hK' K'))
      ((refine ah_r 2 rfl (by kernel_rfl) rfl fun K' hK' => ?_); (simp only [go_sem, simprocAttr, hx, hy, hnn, List.length_map, List.getElem?_map, Int.toNat_natCast, Option.map_some, List.length_map]); ((refine hK' _ ?_); clear hK' K'))
      ((refine ah_r 3 rfl (by kernel_rfl) rfl fun K' hK' => ?_); (simp only [go_sem, simprocAttr, hx, hy, hnn, List.length_map, List.getElem?_map, Int.toNat_natCast, Option.map_some, List.length_map]); ((refine hK' _ ?_); clear hK' K'))
      ((refine ah_r 4 rfl (by kernel_rfl) rfl fun K' hK' => ?_); (simp only [go_sem, simprocAttr, hx, hy, hnn, List.length_map, List.getElem?_map, Int.toNat_natCast, Option.map_some, List.length_map]); ((refine hK' _ ?_); clear hK' K'))
      ((refine ah_r 5 rfl (by kernel_rfl) rfl fun K' hK' => ?_); (simp only [go_sem, simprocAttr, hx, hy, hnn, List.length_map, List.getElem?_map, Int.toNat_natCast, Option.map_some, List.length_map]); ((refine hK' _ ?_); clear hK' K'))
      ((refine ah_r 6 rfl (by kernel_rfl) rfl fun K' hK' => ?_); (simp only [go_sem, simprocAttr, hx, hy, hnn, List.length_map, List.getElem?_map, Int.toNat_natCast, Option.map_some, List.length_map]); ((refine hK' _ ?_); clear hK' K'))
      ((refine ah_r 7 rfl (by kernel_rfl) rfl fun K' hK' => ?_); (simp only [go_sem, simprocAttr, hx, hy, hnn, List.length_map, List.getElem?_map, Int.toNat_natCast, Option.map_some, List.length_map]); ((refine hK' _ ?_); clear hK' K'))
      ((refine ah_r 8 rfl (by kernel_rfl) rfl fun K' hK' => ?_); (simp only [go_sem, simprocAttr, hx, hy, hnn, List.length_map, List.getElem?_map, Int.toNat_natCast, Option.map_some, List.length_map]); ((refine hK' _ ?_); clear hK' K'))
      (refine ah_done (by kernel_rfl) ?_; (simp only [go_sem, simprocAttr, hx, hy, hnn, List.length_map, List.getElem?_map, Int.toNat_natCast, Option.map_some, List.length_map]); refine hK _ ?_; clear hK K)
      refine awp_if (!(eqI x y)) rfl (fun hc => ?_) (fun hc => ?_)
      · have he : eqI x y = false := by simpa using hc
        rw [listEq_not hx hy he] at hR
        (refine awp_reg_seq [4] fun K hK => ?_; (repeat' ((refine al_r rfl fun K' hK' => ?_); (repeat (simp only [go_sem, simprocAttr, hx, hy, hnn, List.length_map, List.getElem?_map, Int.toNat_natCast, Option.map_some, List.length_map])); ((refine hK' _ _ ?_) <;> clear hK' K'))); all_goals (refine al_nil ?_; (simp only [go_sem, simprocAttr, hx, hy, hnn, List.length_map, List.getElem?_map, Int.toNat_natCast, Option.map_some, List.length_map]); refine hK _ ?_; clear hK K))
        refine awp_ret ?_; (refine hR _ _ (.inl rfl) rfl ?_)
        simp only [go_sem, simprocAttr, hx, hy, hnn, List.length_map, List.getElem?_map, Int.toNat_natCast, Option.map_some, List.length_map]
      · have he : eqI x y = true := by simpa using hc
        refine awp_skip ?_
        refine hK _ ?_; clear hK K
        (refine awp_reg_end [0, 1, 12, 13] fun K hK => ?_; (repeat' ((refine al_r rfl fun K' hK' => ?_); (repeat (simp only [go_sem, simprocAttr, hx, hy, hnn, List.length_map, List.getElem?_map, Int.toNat_natCast, Option.map_some, List.length_map])); ((refine hK' _ _ ?_) <;> clear hK' K'))); all_goals (refine al_nil ?_; (simp only [go_sem, simprocAttr, hx, hy, hnn, List.length_map, List.getElem?_map, Int.toNat_natCast, Option.map_some, List.length_map]); refine hK _ ?_; clear hK K))
        refine ⟨_, ?_, i + 1, hi2, rfl, ?_, ?_⟩
        · omega
        · intro j u v hj hu hv
          by_cases e : j = i
          · subst e; rw [hx] at hu; rw [hy] at hv; cases hu; cases hv; exact he
          · exact hbefore j u v (by omega) hu hv
        · rw [wrap_next hi2 ha]

    · refine awp_exit ?_
      clear hK
      refine hK _ ?_; clear hK K
      have hi2 : i = a.length := by simp at hc; omega
      have hfin : listEq eqI a b = true := listEq_of hl fun j x y hx hy => hbefore j x y (by have := lt_of_get hx; omega) hx hy
      rw [hfin] at hR
      (refine awp_reg_seq [4] fun K hK => ?_; (repeat' ((refine al_r rfl fun K' hK' => ?_); (repeat (simp only [go_sem, simprocAttr, List.length_map])); ((refine hK' _ _ ?_) <;> clear hK' K'))); all_goals (refine al_nil ?_; (simp only [go_sem, simprocAttr, List.length_map]); refine hK _ ?_; clear hK K))
      refine awp_ret ?_; (refine hR _ _ (.inl rfl) rfl ?_)
      simp only [go_sem, simprocAttr, List.length_map]



def kN (w : Int) : Int := IntKind.i64.wrap (bits .and .u64 w 255)
def tN (w : Int) : Int := IntKind.i64.wrap (bits .and .u64 (w.fdiv (2 ^ min 8 64)) 4095)
def pN (w : Int) : Int := IntKind.i64.wrap (bits .and .u64 (w.fdiv (2 ^ min 20 64)) 4095)

theorem and_small {x : Int} (h0 : 0 ≤ x) (h1 : x < 18446744073709551616) (m : Nat) (hm : m ≤ 4095) : ∃ t : Nat, IntKind.i64.wrap (bits .and .u64 x (m : Int)) = (t : Int) ∧ t ≤ m := by
  obtain ⟨n, rfl⟩ := Int.eq_ofNat_of_zero_le h0
  have hb := bits_and_u64_nat n m (by omega) (by omega)
  have hl : n &&& m ≤ m := Nat.and_le_right
  refine ⟨n &&& m, ?_, hl⟩
  show IntKind.i64.wrap (bits .and .u64 (n : Int) (m : Int)) = _
  rw [hb, Go.Ab.wrap_small (by omega) (by omega)]

theorem shr_range {w : Int} (h0 : 0 ≤ w) (h1 : w < 18446744073709551616) (k : Nat) : 0 ≤ w.fdiv (2 ^ k) ∧ w.fdiv (2 ^ k) < 18446744073709551616 := by
  have hp : (0 : Int) < 2 ^ k := Int.pow_pos (by decide)
  rw [Int.fdiv_eq_ediv_of_nonneg _ (by omega)]
  refine ⟨Int.ediv_nonneg h0 (by omega), Int.lt_of_le_of_lt (Int.ediv_le_self _ h0) h1⟩

abbrev WordOk (w : Int) : Prop := 0 ≤ w ∧ w < 18446744073709551616

theorem tN_ok {w : Int} (h : WordOk w) : ∃ t : Nat, tN w = t ∧ t ≤ 4095 := and_small (shr_range h.1 h.2 _).1 (shr_range h.1 h.2 _).2 4095 (by omega)
theorem pN_ok {w : Int} (h : WordOk w) : ∃ t : Nat, pN w = t ∧ t ≤ 4095 := and_small (shr_range h.1 h.2 _).1 (shr_range h.1 h.2 _).2 4095 (by omega)

/-- A byte of a text in words. -/
def byteN (h : List Int) (a i : Nat) : Int := IntKind.u8.wrap ((h.getD (a + i / 8) 0).fdiv (2 ^ min (8 * (i % 8)) 64))
def bytesN (h : List Int) (a n : Nat) : List Int := (List.range n).map (byteN h a)

abbrev z0 : Obj := ⟨0, 0, 0, ByteArray.empty, []⟩
def objO (h : List Int) (a : Nat) (k num : Int) (t p a1 : Nat) : Obj := ⟨a, k, num, pushB (bytesN h a1 t), (h.drop (a1 + (t + 7) / 8)).take p⟩
def atO (h : List Int) (a : Nat) (o : Obj) (n : Nat) : Obj × Int :=
  if ((putS [] o).2.2 != 0) || !(listEq eqI (putS [] o).1 ((h.drop a).take n)) then (z0, 3) else (o, 0)
def atR (h : List Int) (a : Nat) (k : Int) (t p : Nat) : Obj × Int :=
  if numK k then atO h a (objO h a k (IntKind.i64.wrap (h.getD (a + 1) 0)) t p (a + 2)) (a + 2 + (t + 7) / 8 + p - a)
  else atO h a (objO h a k 0 t p (a + 1)) (a + 1 + (t + 7) / 8 + p - a)
/-- What At answers. -/
def atS (h : List Int) (a : Int) : Obj × Int :=
  if decide (a < 0) || decide (a ≥ h.length) then (z0, 4) else
  match h[a.toNat]? with
  | none => (z0, 0)
  | some w => if (w.fdiv (2 ^ min 32 64) != 0) || decide ((roomN (kN w) (tN w).toNat (pN w).toNat : Int) > h.length - a) then (z0, 3) else atR h a.toNat (kN w) (tN w).toNat (pN w).toNat

theorem pushB_size (l : List Int) : (pushB l).size = l.length := by
  have : ∀ (l : List Int) (s : ByteArray), (l.foldl (fun r n => r.push (UInt8.ofNat n.toNat)) s).size = s.size + l.length := by
    intro l
    induction l with
    | nil => intro s; rfl
    | cons n l ih => intro s; rw [List.foldl_cons, ih]; simp; omega
  unfold pushB
  rw [this]; simp

theorem bytesN_succ (h : List Int) (a i : Nat) : bytesN h a (i + 1) = bytesN h a i ++ [byteN h a i] := by
  unfold bytesN; rw [List.range_succ, List.map_append]; rfl
end Go.Proofs.Ytagphggcdmjlpaa.P

/- The object at a place of a heap: the walk. -/
namespace Go.Proofs.Ytagphggcdmjlpaa.P
open Go.Ab Go.Proofs.Ytagphggcdmjlpaa.T

abbrev brow (b : Int) : List PV := [.lit (.int .u8 b)]

theorem cut_len (h : List Int) {a n : Nat} (ha : a + n ≤ h.length) : ((h.drop a).take n).length = n := by rw [List.length_take, List.length_drop]; omega

theorem put_len (h : List Int) (o : Obj) (hl : h.length ≤ 4000) : (putS h o).1.length ≤ h.length + 4001 := by
  unfold putS
  split
  · simp
  · split
    · simp
    · rename_i h1 h2
      simp only [List.length_append, enc_len]
      simp at h2
      omega


theorem at_ (h : List Int) (a : Int) (hlen : h.length ≤ maxLen) (hok : ∀ w, w ∈ h → WordOk w) : ACallP Try.prog 19 [words h, iD a] (.tup [objD (atS h a).1, iD (atS h a).2]) := by
  obtain ⟨R0, hR0⟩ : ∃ R0, R0 = atS h a := ⟨_, rfl⟩
  have hv : R0 = if decide (a < 0) || decide (a ≥ h.length) then (z0, 4) else
    match h[a.toNat]? with
    | none => (z0, 0)
    | some w => if (w.fdiv (2 ^ min 32 64) != 0) || decide ((roomN (kN w) (tN w).toNat (pN w).toNat : Int) > h.length - a) then (z0, 3) else atR h a.toNat (kN w) (tN w).toNat (pN w).toNat := hR0
  rw [← hR0]
  clear hR0
  refine acallp_fnv [.cell 4 30, .tmp 5] Try.func19 rfl rfl Try.ntmps19 (by simp) fun R hR => ?_
  (refine awp_reg_seq [0, 1, 4] fun K hK => ?_; (repeat' ((refine al_r rfl fun K' hK' => ?_); (repeat (simp only [go_sem, simprocAttr, List.length_map])); ((refine hK' _ _ ?_) <;> clear hK' K'))); all_goals (refine al_nil ?_; (simp only [go_sem, simprocAttr, List.length_map]); refine hK _ ?_; clear hK K))
  refine awp_seq_k fun K hK => ?_
  (refine awp_reg_tov [0, 1, 4, 23] [(23, bD (decide (a < 0) || decide (a ≥ (h.length : Int))))] (h := ?_) (k := ?_); · ((repeat' (first | ((first | refine al_r rfl fun K' hK' => ?_ | refine al_t rfl rfl fun K' hK' => ?_); (repeat (simp only [go_sem, simprocAttr, List.length_map])); ((first | refine hK' _ _ ?_ | refine ⟨?_, hK' _ _ ?_⟩) <;> clear hK' K' <;> (first | (show alist _ _ _ _ _ _; skip) | (intro s hs; cases hs; done)))) | refine al_e rfl rfl ?_ | ((fail_if_success (refine al_t rfl rfl fun K' hK' => ?_)); refine al_s _ rfl rfl rfl (fun hb => ?_) (fun hb => ?_)))); all_goals (refine al_nil ?_; simp only [go_sem, simprocAttr, List.length_map, *, Bool.and_true, Bool.and_false, Bool.true_and, Bool.false_and, Bool.or_true, Bool.true_or, Bool.or_false, Bool.false_or, Bool.not_true, Bool.not_false, Bool.false_eq_true]))); intro K hK; (simp only [go_sem, simprocAttr, List.length_map]); refine hK _ ?_; clear hK K
  refine awp_if (_) rfl (fun hc => ?_) (fun hc => ?_)
  · (refine awp_reg_seq [4, 5] fun K hK => ?_; (repeat' ((first | refine al_r rfl fun K' hK' => ?_ | refine al_d rfl fun K' hK' => ?_); (repeat (first | (simp only [go_sem, simprocAttr, List.length_map]) | refine AS.mk ?_)); ((first | refine hK' _ _ ?_ | refine ⟨?_, hK' _ _ ?_⟩) <;> clear hK' K' <;> (first | (show alist _ _ _ _ _ _; skip) | (simp; done))))); all_goals (refine al_nil ?_; (simp only [go_sem, simprocAttr, List.length_map]); refine hK _ ?_; clear hK K))
    refine awp_ret ?_; refine hR _ _ (.inl rfl) rfl ?_
    rw [if_pos hc] at hv
    rw [hv]
    simp only [go_sem, simprocAttr, List.length_map, List.map_nil]
    rfl
  · rw [if_neg (by rw [hc]; simp)] at hv
    have hc0 := hc
    simp only [Bool.or_eq_false_iff, decide_eq_false_iff_not] at hc0
    obtain ⟨n, rfl⟩ := Int.eq_ofNat_of_zero_le (show 0 ≤ a by omega)
    have hnl : n < h.length := by omega
    obtain ⟨w, hw⟩ := get_of_lt hnl
    rw [Int.toNat_natCast, hw] at hv
    simp only at hv
    have hn0 : (0 : Int) ≤ (n : Int) := Int.natCast_nonneg n
    have hwok := hok w (List.mem_of_getElem? hw)
    obtain ⟨t, ht, ht4⟩ := tN_ok hwok
    obtain ⟨p, hp, hp4⟩ := pN_ok hwok
    have hkN : IntKind.i64.wrap (bits .and .u64 w 255) = kN w := rfl
    have htN : IntKind.i64.wrap (bits .and .u64 (w.fdiv (2 ^ min 8 64)) 4095) = (t : Int) := ht
    have hpN : IntKind.i64.wrap (bits .and .u64 (w.fdiv (2 ^ min 20 64)) 4095) = (p : Int) := hp
    rw [ht, hp, Int.toNat_natCast, Int.toNat_natCast] at hv
    generalize kN w = k at *
    have hro := room k t p (by omega) (by omega)
    have hwr : IntKind.i64.wrap ((h.length : Int) - (n : Int)) = (h.length : Int) - (n : Int) := by
      simp [maxLen] at hlen
      rw [Go.Ab.wrap_small (by omega) (by omega)]

    refine awp_skip ?_
    refine hK _ ?_; clear hK K
    (refine awp_reg_seq [0, 1, 4, 6] fun K hK => ?_; (repeat' ((refine al_r rfl fun K' hK' => ?_); (repeat (simp only [go_sem, simprocAttr, List.length_map, hw, hnl, hn0, hkN, htN, hpN, hwr, Int.toNat_natCast, List.getElem?_map, Option.map_some])); ((refine hK' _ _ ?_) <;> clear hK' K'))); all_goals (refine al_nil ?_; (simp only [go_sem, simprocAttr, List.length_map, hw, hnl, hn0, hkN, htN, hpN, hwr, Int.toNat_natCast, List.getElem?_map, Option.map_some]); refine hK _ ?_; clear hK K))
    (refine awp_reg_seq [0, 1, 4, 6, 7, 8, 9] fun K hK => ?_; (repeat' ((refine al_r rfl fun K' hK' => ?_); (repeat (simp only [go_sem, simprocAttr, List.length_map, hw, hnl, hn0, hkN, htN, hpN, hwr, Int.toNat_natCast, List.getElem?_map, Option.map_some])); ((refine hK' _ _ ?_) <;> clear hK' K'))); all_goals (refine al_nil ?_; (simp only [go_sem, simprocAttr, List.length_map, hw, hnl, hn0, hkN, htN, hpN, hwr, Int.toNat_natCast, List.getElem?_map, Option.map_some]); refine hK _ ?_; clear hK K))
    refine awp_seq_k fun K hK => ?_
    (refine awp_reg_tov [0, 1, 4, 7, 8, 9, 53] [(53, bD ((w.fdiv (2 ^ min 32 64) != 0) || decide ((roomN k t p : Int) > (h.length : Int) - (n : Int))))] (h := ?_) (k := ?_); · ((repeat' (first | ((first | refine al_r rfl fun K' hK' => ?_ | refine al_t rfl rfl fun K' hK' => ?_); (repeat (simp only [go_sem, simprocAttr, List.length_map, hw, hnl, hn0, hkN, htN, hpN, hwr, Int.toNat_natCast, List.getElem?_map, Option.map_some])); (first | ((first | refine hK' _ _ ?_ | refine ⟨?_, hK' _ _ ?_⟩) <;> clear hK' K' <;> (first | (show alist _ _ _ _ _ _; skip) | (intro s hs; cases hs; done))) | ((show AC _ _ (D.fn 51 _) _ _); refine acall_p (f := 51) (e := rfl) (hr := rfl) (k := hK' _ _ ?_) (hc := Try.call51) (h := hro); clear hK' K'))) | refine al_e rfl rfl ?_ | ((fail_if_success (refine al_t rfl rfl fun K' hK' => ?_)); refine al_s _ rfl rfl rfl (fun hb => ?_) (fun hb => ?_)))); all_goals (refine al_nil ?_; simp only [go_sem, simprocAttr, List.length_map, hw, hnl, hn0, hkN, htN, hpN, hwr, Int.toNat_natCast, List.getElem?_map, Option.map_some, *, Bool.and_true, Bool.and_false, Bool.true_and, Bool.false_and, Bool.or_true, Bool.true_or, Bool.or_false, Bool.false_or, Bool.not_true, Bool.not_false, Bool.false_eq_true]))); intro K hK; (simp only [go_sem, simprocAttr, List.length_map, hw, hnl, hn0, hkN, htN, hpN, hwr, Int.toNat_natCast, List.getElem?_map, Option.map_some]); refine hK _ ?_; clear hK K
    refine awp_if (_) rfl (fun hc => ?_) (fun hc => ?_)
    · (refine awp_reg_seq [4, 5] fun K hK => ?_; (repeat' ((first | refine al_r rfl fun K' hK' => ?_ | refine al_d rfl fun K' hK' => ?_); (repeat (first | (simp only [go_sem, simprocAttr, List.length_map, hw, hnl, hn0, hkN, htN, hpN, hwr, Int.toNat_natCast, List.getElem?_map, Option.map_some]) | refine AS.mk ?_)); ((first | refine hK' _ _ ?_ | refine ⟨?_, hK' _ _ ?_⟩) <;> clear hK' K' <;> (first | (show alist _ _ _ _ _ _; skip) | (simp; done))))); all_goals (refine al_nil ?_; (simp only [go_sem, simprocAttr, List.length_map, hw, hnl, hn0, hkN, htN, hpN, hwr, Int.toNat_natCast, List.getElem?_map, Option.map_some]); refine hK _ ?_; clear hK K))
      refine awp_ret ?_; refine hR _ _ (.inl rfl) rfl ?_
      rw [if_pos hc] at hv
      rw [hv]
      simp only [go_sem, simprocAttr, List.length_map, hw, hnl, hn0, hkN, htN, hpN, hwr, Int.toNat_natCast, List.getElem?_map, Option.map_some, List.map_nil]
      rfl
    · rw [if_neg (by rw [hc]; simp)] at hv
      have hroom : n + roomN k t p ≤ h.length := by
        simp only [Bool.or_eq_false_iff, decide_eq_false_iff_not] at hc
        omega
      clear hro
      have hn1 : IntKind.i64.wrap ((n : Int) + 1) = ((n + 1 : Nat) : Int) := by
        simp [maxLen] at hlen
        rw [Go.Ab.wrap_small (by omega) (by omega)]; rfl

      refine awp_skip ?_
      refine hK _ ?_; clear hK K
      (refine awp_reg_seq [0, 1, 4, 7, 8, 9, 10] fun K hK => ?_; (repeat' ((first | refine al_r rfl fun K' hK' => ?_ | refine al_d rfl fun K' hK' => ?_); (repeat (first | (simp only [go_sem, simprocAttr, List.length_map, hn1]) | refine AS.mk ?_)); ((first | refine hK' _ _ ?_ | refine ⟨?_, hK' _ _ ?_⟩) <;> clear hK' K' <;> (first | (show alist _ _ _ _ _ _; skip) | (simp; done))))); all_goals (refine al_nil ?_; (simp only [go_sem, simprocAttr, List.length_map, hn1]); refine hK _ ?_; clear hK K))
      (refine awp_reg_seq [0, 1, 4, 7, 8, 9, 10] fun K hK => ?_; (repeat' ((refine al_r rfl fun K' hK' => ?_); (repeat (simp only [go_sem, simprocAttr, List.length_map, hn1])); ((refine hK' _ _ ?_) <;> clear hK' K'))); all_goals (refine al_nil ?_; (simp only [go_sem, simprocAttr, List.length_map, hn1]); refine hK _ ?_; clear hK K))
      refine awp_seq_kc fun K hK hcut => ?_
      have key : ∀ (a1 : Nat) (num : Int), n < a1 → a1 + (t + 7) / 8 + p ≤ h.length → R0 = atO h n (objO h n k num t p a1) (a1 + (t + 7) / 8 + p - n) → K ⟨ofL [(0, words h), (1, iD a1), (4, .ptr 0 0 0), (8, iD t), (9, iD p), (10, .ptr 1 0 0)], [.box [iD 0, iD 0, iD 0, .p (.lit (.string ByteArray.empty)), .nil], .box [iD n, iD k, iD num, .p (.lit (.string ByteArray.empty)), .nil]], 0⟩ := by
        clear hcut
        intro a1 num ha1 hfit hR1
        clear hv
        simp [maxLen] at hlen
        refine hK _ ?_; clear hK K
        (refine awp_reg_seq [0, 1, 4, 8, 9, 10, 11] fun K hK => ?_; (repeat' ((refine al_r rfl fun K' hK' => ?_); (repeat (simp only [go_sem, simprocAttr, List.length_map, hn1])); ((refine hK' _ _ ?_) <;> clear hK' K'))); all_goals (refine al_nil ?_; (simp only [go_sem, simprocAttr, List.length_map, hn1]); refine hK _ ?_; clear hK K))
        refine awp_born 11 1 rfl ?_
        refine awp_seq_k fun K hK => ?_
        (refine awp_reg_seq [0, 1, 4, 8, 9, 10, 11, 74, 75] fun K hK => ?_; (repeat' ((refine al_r rfl fun K' hK' => ?_); (repeat (simp only [go_sem, simprocAttr, List.length_map, hn1])); ((refine hK' _ _ ?_) <;> clear hK' K'))); all_goals (refine al_nil ?_; (simp only [go_sem, simprocAttr, List.length_map, hn1]); refine hK _ ?_; clear hK K))
        refine awp_block ?_
        -- loop 0 head [0, 1, 4, 8, 9, 10, 11, 74, 75]
        refine awp_loop_cut (fun m s => ∃ i : Nat, i ≤ t ∧ m = t - i ∧ s = ⟨ofL [(0, words h), (1, iD a1), (4, .ptr 0 0 0), (8, iD t), (9, iD p), (10, .ptr 1 0 0), (11, .ref 2 0 i), (74, iD t), (75, iD i)], [.box [iD 0, iD 0, iD 0, .p (.lit (.string ByteArray.empty)), .nil], .box [iD n, iD k, iD num, .p (.lit (.string ByteArray.empty)), .nil], .row 1 ((bytesN h a1 i).map brow)], 0⟩) ⟨_, 0, Nat.zero_le _, rfl, rfl⟩ ?_
        rintro m s ⟨i, hi, hmi, rfl⟩
        (refine awp_reg_seq [0, 1, 4, 8, 9, 10, 11, 74, 75, 76] fun K hK => ?_; (repeat' ((refine al_r rfl fun K' hK' => ?_); (repeat (simp only [go_sem, simprocAttr, List.length_map, hn1])); ((refine hK' _ _ ?_) <;> clear hK' K'))); all_goals (refine al_nil ?_; (simp only [go_sem, simprocAttr, List.length_map, hn1]); refine hK _ ?_; clear hK K))
        refine awp_seq_k fun K hK => ?_
        refine awp_if (decide ((i : Int) < (t : Int))) rfl (fun hc => ?_) (fun hc => ?_)
        · refine awp_skip ?_
          refine hK _ ?_; clear hK K
          refine awp_seq_k fun K hK => ?_
          refine awp_block ?_
          have hi2 : i < t := by simpa using hc
          obtain ⟨u, hget⟩ := get_of_lt (l := h) (i := a1 + i / 8) (by omega)
          have hgl := lt_of_get hget
          have hg0 : (0 : Int) ≤ ((a1 + i / 8 : Nat) : Int) := Int.natCast_nonneg _
          have hix : IntKind.i64.wrap ((i : Int) + 1) = ((i + 1 : Nat) : Int) := by rw [Go.Ab.wrap_small (by omega) (by omega)]; rfl
          have hq8 : IntKind.i64.wrap ((i : Int).tdiv 8) = ((i / 8 : Nat) : Int) := by
            rw [Int.tdiv_eq_ediv_of_nonneg (by omega), Go.Ab.wrap_small (by omega) (by omega)]; omega
          have hqa : IntKind.i64.wrap ((a1 : Int) + ((i / 8 : Nat) : Int)) = ((a1 + i / 8 : Nat) : Int) := by rw [Go.Ab.wrap_small (by omega) (by omega)]; rfl
          have hrm : (i : Int).tmod 8 = ((i % 8 : Nat) : Int) := by rw [Int.tmod_eq_emod_of_nonneg (by omega)]; omega
          have hm8 : IntKind.i64.wrap (8 * ((i % 8 : Nat) : Int)) = ((8 * (i % 8) : Nat) : Int) := by rw [Go.Ab.wrap_small (by omega) (by omega)]; omega
          have h80 : (0 : Int) ≤ ((8 * (i % 8) : Nat) : Int) := Int.natCast_nonneg _
          have hby : IntKind.u8.wrap (u.fdiv (2 ^ min (8 * (i % 8)) 64)) = byteN h a1 i := by unfold byteN; simp [List.getD, hget]
          have hti : List.take i ((bytesN h a1 i).map brow) = (bytesN h a1 i).map brow := List.take_of_length_le (by simp [bytesN])
          have hbl : (bytesN h a1 i).length = i := by simp [bytesN]
          have hfi : (i + 1) * 1 ≤ 140737488355328 := by omega

          (refine awp_reg_seq [0, 1, 4, 8, 9, 10, 11, 12, 74, 75] fun K hK => ?_; (repeat' ((refine al_r rfl fun K' hK' => ?_); (repeat (simp only [go_sem, simprocAttr, hget, hgl, hg0, hix, hq8, hqa, hrm, hm8, h80, hby, hti, hbl, hfi, Int.toNat_natCast, List.getElem?_map, Option.map_some, List.length_map, List.drop_zero, Nat.mul_one])); ((refine hK' _ _ ?_) <;> clear hK' K'))); all_goals (refine al_nil ?_; (simp only [go_sem, simprocAttr, hget, hgl, hg0, hix, hq8, hqa, hrm, hm8, h80, hby, hti, hbl, hfi, Int.toNat_natCast, List.getElem?_map, Option.map_some, List.length_map, List.drop_zero, Nat.mul_one]); refine hK _ ?_; clear hK K))
          (refine awp_reg_end [0, 1, 4, 8, 9, 10, 11, 74, 75] fun K hK => ?_; (repeat' ((refine al_r rfl fun K' hK' => ?_); (repeat (first | (simp only [go_sem, simprocAttr, hget, hgl, hg0, hix, hq8, hqa, hrm, hm8, h80, hby, hti, hbl, hfi, Int.toNat_natCast, List.getElem?_map, Option.map_some, List.length_map, List.drop_zero, Nat.mul_one]) | refine AAp.grow ?_)); ((first | refine hK' _ _ ?_ | refine ⟨?_, ?_, ?_, hK' _ _ ?_⟩) <;> clear hK' K' <;> (first | (show alist _ _ _ _ _ _; skip) | (simp; done) | omega)))); all_goals (refine al_nil ?_; (simp only [go_sem, simprocAttr, hget, hgl, hg0, hix, hq8, hqa, hrm, hm8, h80, hby, hti, hbl, hfi, Int.toNat_natCast, List.getElem?_map, Option.map_some, List.length_map, List.drop_zero, Nat.mul_one]); refine hK _ ?_; clear hK K))
          refine hK _ ?_; clear hK K
          (refine awp_reg_end [0, 1, 4, 8, 9, 10, 11, 74, 75] fun K hK => ?_; (repeat' ((refine al_r rfl fun K' hK' => ?_); (repeat (simp only [go_sem, simprocAttr, hget, hgl, hg0, hix, hq8, hqa, hrm, hm8, h80, hby, hti, hbl, hfi, Int.toNat_natCast, List.getElem?_map, Option.map_some, List.length_map, List.drop_zero, Nat.mul_one])); ((refine hK' _ _ ?_) <;> clear hK' K'))); all_goals (refine al_nil ?_; (simp only [go_sem, simprocAttr, hget, hgl, hg0, hix, hq8, hqa, hrm, hm8, h80, hby, hti, hbl, hfi, Int.toNat_natCast, List.getElem?_map, Option.map_some, List.length_map, List.drop_zero, Nat.mul_one]); refine hK _ ?_; clear hK K))
          refine ⟨t - (i + 1), by omega, [0, 1, 4, 8, 9, 10, 11, 74, 75], [0, 1, 4], by decide, by intro q hq; exact absurd hq (Nat.not_lt_zero q), i + 1, hi2, rfl, ?_⟩
          rw [bytesN_succ, List.map_append]
          simp only [go_sem, simprocAttr, hget, hgl, hg0, hix, hq8, hqa, hrm, hm8, h80, hby, hti, hbl, hfi, Int.toNat_natCast, List.getElem?_map, Option.map_some, List.length_map, List.drop_zero, Nat.mul_one]
        · have hit : t = i := by simp at hc; omega
          subst hit
          have htB : List.take t ((bytesN h a1 t).map brow) = (bytesN h a1 t).map brow := List.take_of_length_le (by simp [bytesN])
          have hbb : ((bytesN h a1 t).map brow).mapM oneB = some (bytesN h a1 t) := bytes_map _
          have h7a : IntKind.i64.wrap ((t : Int) + 7) = ((t + 7 : Nat) : Int) := by rw [Go.Ab.wrap_small (by omega) (by omega)]; rfl
          have h7b : IntKind.i64.wrap (((t + 7 : Nat) : Int).tdiv 8) = (((t + 7) / 8 : Nat) : Int) := by
            rw [Int.tdiv_eq_ediv_of_nonneg (by omega), Go.Ab.wrap_small (by omega) (by omega)]; omega
          have h7c : IntKind.i64.wrap ((a1 : Int) + (((t + 7) / 8 : Nat) : Int)) = ((a1 + (t + 7) / 8 : Nat) : Int) := by rw [Go.Ab.wrap_small (by omega) (by omega)]; rfl
          generalize hA2 : a1 + (t + 7) / 8 = a2 at *
          have hAp : IntKind.i64.wrap ((a2 : Int) + (p : Int)) = ((a2 + p : Nat) : Int) := by rw [Go.Ab.wrap_small (by omega) (by omega)]; rfl
          have ha0 : (0 : Int) ≤ (a2 : Int) := Int.natCast_nonneg _
          have ha01 : (0 : Int) ≤ ((a2 + p : Nat) : Int) := Int.natCast_nonneg _
          have ha3 : ((a2 + p : Nat) : Int) ≤ (h.length : Int) := by omega
          have ha4 : (a2 : Int) ≤ ((a2 + p : Nat) : Int) := by omega
          have hrw := wrow1 h
          obtain ⟨P, hP⟩ : ∃ P, P = (h.drop a2).take p := ⟨_, rfl⟩
          have hPl : P.length = p := by rw [hP]; exact cut_len h (by omega)
          have hPw := wrow1 P
          have hdt : List.drop a2 (List.take (a2 + p) (h.map wrow)) = P.map wrow := by rw [hP, List.drop_take, Nat.add_sub_cancel_left, List.map_take, List.map_drop]
          have hPt : List.take p (P.map wrow) = P.map wrow := List.take_of_length_le (by simp [hPl])
          have hPf : p * 8 ≤ 140737488355328 := by omega

          refine awp_exit ?_
          clear hK
          refine hK _ ?_; clear hK K
          (refine awp_reg_seq [0, 1, 4, 9, 10] fun K hK => ?_; (repeat' ((first | refine al_r rfl fun K' hK' => ?_ | refine al_d rfl fun K' hK' => ?_); (repeat (first | (simp only [go_sem, simprocAttr, List.length_map, htB, hbb, h7a, h7b, h7c, List.drop_zero]) | refine AS.mk ?_)); ((first | refine hK' _ _ ?_ | refine ⟨?_, hK' _ _ ?_⟩) <;> clear hK' K' <;> (first | (show alist _ _ _ _ _ _; skip) | (simp; done))))); all_goals (refine al_nil ?_; (simp only [go_sem, simprocAttr, List.length_map, htB, hbb, h7a, h7b, h7c, List.drop_zero]); refine hK _ ?_; clear hK K))
          (refine awp_frz [0, 1, 4, 9, 10] [0, 1] (by decide) (by (simp; done)) ?_; simp only [go_sem, simprocAttr, List.length_map, htB, hbb, h7a, h7b, h7c, List.drop_zero])
          refine awp_born_box 1 4 1 rfl rfl ?_
          simp only [go_sem, simprocAttr, List.length_map, htB, hbb, h7a, h7b, h7c, List.drop_zero]

          refine awp_draw_seq (by kernel_rfl) [0, 1, 4, 9, 10] fun K hK => ?_
          have key : K (⟨ofL [(0, words h), (1, iD a2), (4, .ptr 0 0 0), (9, iD p), (10, .ptr 1 0 0)], [.box [iD 0, iD 0, iD 0, .p (.lit (.string ByteArray.empty)), .nil], .box [iD n, iD k, iD num, .p (.lit (.string (pushB (bytesN h a1 t)))), .ref 3 0 p], .dead, .row 1 (P.map wrow)], 0⟩) := by
            refine hK _ ?_; clear hK K
            (refine awp_frz [0, 1, 4, 9, 10] [0] (by decide) (by (simp; done)) ?_; simp only [go_sem, simprocAttr, List.length_map, hdt, hPl, hPt, hPf, hAp, Nat.zero_add, ha0, ha01, ha3, ha4, Int.toNat_natCast, List.take_nil, List.take_zero, List.nil_append])
            obtain ⟨o, ho⟩ : ∃ o : Obj, o = ⟨n, k, num, pushB (bytesN h a1 t), P⟩ := ⟨_, rfl⟩
            have hoo : objO h n k num t p a1 = o := by unfold objO; rw [ho, hA2, hP]
            have hpu0 : ACallP Try.prog 17 [.nil, objD o] _ := ACallP.soft (put [] o (by simp)) rfl
            have hR2 : R0 = if ((putS [] o).2.2 != 0) || !(listEq eqI (putS [] o).1 ((h.drop n).take (a2 + p - n))) then (z0, 3) else (o, 0) := by rw [hR1, hoo]; rfl
            have hxl := put_len [] o (by simp)
            have heq := equalW (putS [] o).1 ((h.drop n).take (a2 + p - n)) (by simp at hxl; simp [maxLen]; omega)
            generalize putS [] o = X at hpu0 hR2 heq
            obtain ⟨x, y, e⟩ := X
            simp only at hpu0 hR2 heq
            generalize listEq eqI x ((h.drop n).take (a2 + p - n)) = le at heq hR2
            have hdn : List.drop n (List.take (a2 + p) (h.map wrow)) = ((h.drop n).take (a2 + p - n)).map wrow := by rw [List.drop_take, List.map_take, List.map_drop]
            have hnle : (n : Int) ≤ ((a2 + p : Nat) : Int) := by omega
            have hov : o.at_ = n ∧ o.kind = k ∧ o.num = num ∧ o.text = pushB (bytesN h a1 t) ∧ o.parts = P := by rw [ho]; exact ⟨rfl, rfl, rfl, rfl, rfl⟩
            obtain ⟨v1, v2, v3, v4, v5⟩ := hov
            clear ho hoo hR1
            rw [← v1, ← v2, ← v3, ← v4, ← v5]
            refine awp_seq_k fun K hK => ?_

            (refine awp_reg_seq [0, 1, 4, 9, 10, 13, 15] fun K hK => ?_; (repeat' ((refine al_r rfl fun K' hK' => ?_); (repeat (simp only [go_sem, simprocAttr, List.length_map])); (first | ((refine hK' _ _ ?_) <;> clear hK' K') | ((show AC _ _ (D.fn 17 _) _ _); refine acall_p (f := 17) (e := rfl) (hr := rfl) (k := hK' _ _ ?_) (hc := Try.call17) (h := hpu0); clear hK' K')))); all_goals (refine al_nil ?_; (simp only [go_sem, simprocAttr, List.length_map]); refine hK _ ?_; clear hK K))

            refine awp_reg_tov [4, 10, 131] [(131, bD ((e != 0) || !le))] (h := ?_) (k := ?_)
            · obtain ⟨en, hen⟩ : ∃ en, (e != 0) = en := ⟨_, rfl⟩
              cases en <;> cases le

              all_goals ((repeat' (first | ((first | refine al_r rfl fun K' hK' => ?_ | refine al_t rfl rfl fun K' hK' => ?_); (repeat (simp only [go_sem, simprocAttr, List.length_map, v1, hdn, hn0, hnle, hAp, ha01, ha3, Int.toNat_natCast, hen])); (first | ((first | refine hK' _ _ ?_ | refine ⟨?_, hK' _ _ ?_⟩) <;> clear hK' K' <;> (first | (show alist _ _ _ _ _ _; skip) | assumption)) | ((show AC _ _ (D.fn 18 _) _ _); refine acall_p (f := 18) (e := rfl) (hr := rfl) (k := hK' _ _ ?_) (hc := Try.call18) (h := heq); clear hK' K'))) | refine al_e rfl rfl ?_)); all_goals (refine al_nil ?_; (simp only [go_sem, simprocAttr, List.length_map, v1, hdn, hn0, hnle, hAp, ha01, ha3, Int.toNat_natCast, hen, *, Bool.and_true, Bool.and_false, Bool.true_and, Bool.false_and, Bool.or_true, Bool.true_or, Bool.or_false, Bool.false_or, Bool.not_true, Bool.not_false, Bool.false_eq_true]; done)))

            (intro K hK; (simp only [go_sem, simprocAttr, List.length_map, v1]); refine hK _ ?_; clear hK K)
            refine awp_if (_) rfl (fun hc => ?_) (fun hc => ?_)
            · (refine awp_reg_seq [4, 5] fun K hK => ?_; (repeat' ((first | refine al_r rfl fun K' hK' => ?_ | refine al_d rfl fun K' hK' => ?_); (repeat (first | (simp only [go_sem, simprocAttr, List.length_map, v1]) | refine AS.mk ?_)); ((first | refine hK' _ _ ?_ | refine ⟨?_, hK' _ _ ?_⟩) <;> clear hK' K' <;> (first | (show alist _ _ _ _ _ _; skip) | (simp; done))))); all_goals (refine al_nil ?_; (simp only [go_sem, simprocAttr, List.length_map, v1]); refine hK _ ?_; clear hK K))
              refine awp_ret ?_; refine hR _ _ (.inl rfl) rfl ?_
              rw [if_pos hc] at hR2
              rw [hR2]
              simp only [go_sem, simprocAttr, List.length_map, v1, List.map_nil]
              rfl
            · rw [if_neg (by rw [hc]; simp)] at hR2
              refine awp_skip ?_
              refine hK _ ?_; clear hK K
              (refine awp_reg_seq [4, 5] fun K hK => ?_; (repeat' ((first | refine al_r rfl fun K' hK' => ?_ | refine al_d rfl fun K' hK' => ?_); (repeat (first | (simp only [go_sem, simprocAttr, List.length_map, v1]) | refine AS.mk ?_)); ((first | refine hK' _ _ ?_ | refine ⟨?_, hK' _ _ ?_⟩) <;> clear hK' K' <;> (first | (show alist _ _ _ _ _ _; skip) | (simp; done))))); all_goals (refine al_nil ?_; (simp only [go_sem, simprocAttr, List.length_map, v1]); refine hK _ ?_; clear hK K))
              refine awp_ret ?_; refine hR _ _ (.inl rfl) rfl ?_
              rw [hR2]
              simp only [go_sem, simprocAttr, List.length_map, v1, objD]

          ((refine ah_r 0 rfl (by kernel_rfl) rfl fun K' hK' => ?_); (simp only [go_sem, simprocAttr, List.length_map, hdt, hPl, hPt, hPf, hAp, Nat.zero_add, ha0, ha01, ha3, ha4, Int.toNat_natCast, List.take_nil, List.take_zero, List.nil_append]); ((refine hK' _ ?_); clear hK' K'))
          ((refine ah_r 2 rfl (by kernel_rfl) rfl fun K' hK' => ?_); (simp only [go_sem, simprocAttr, List.length_map, hdt, hPl, hPt, hPf, hAp, Nat.zero_add, ha0, ha01, ha3, ha4, Int.toNat_natCast, List.take_nil, List.take_zero, List.nil_append]); ((refine hK' _ ?_); clear hK' K'))
          ((refine ah_r 3 rfl (by kernel_rfl) rfl fun K' hK' => ?_); (simp only [go_sem, simprocAttr, List.length_map, hdt, hPl, hPt, hPf, hAp, Nat.zero_add, ha0, ha01, ha3, ha4, Int.toNat_natCast, List.take_nil, List.take_zero, List.nil_append]); ((refine hK' _ ?_); clear hK' K'))
          ((refine ah_r 4 rfl (by kernel_rfl) rfl fun K' hK' => ?_); (simp only [go_sem, simprocAttr, List.length_map, hdt, hPl, hPt, hPf, hAp, Nat.zero_add, ha0, ha01, ha3, ha4, Int.toNat_natCast, List.take_nil, List.take_zero, List.nil_append]); ((refine hK' _ ?_); clear hK' K'))
          ((refine ah_r 5 rfl (by kernel_rfl) rfl fun K' hK' => ?_); (simp only [go_sem, simprocAttr, List.length_map, hdt, hPl, hPt, hPf, hAp, Nat.zero_add, ha0, ha01, ha3, ha4, Int.toNat_natCast, List.take_nil, List.take_zero, List.nil_append]); ((refine hK' _ ?_); clear hK' K'))
          ((refine ah_r 6 rfl (by kernel_rfl) rfl fun K' hK' => ?_); (simp only [go_sem, simprocAttr, List.length_map, hdt, hPl, hPt, hPf, hAp, Nat.zero_add, ha0, ha01, ha3, ha4, Int.toNat_natCast, List.take_nil, List.take_zero, List.nil_append]); ((refine hK' _ ?_); clear hK' K'))
          refine ah_two 1 7 rfl rfl (by kernel_rfl) ?_ ?_
          · ((repeat' ((refine al_r rfl fun K' hK' => ?_); (repeat (simp only [go_sem, simprocAttr, List.length_map, hdt, hPl, hPt, hPf, hAp, Nat.zero_add, ha0, ha01, ha3, ha4, Int.toNat_natCast, List.take_nil, List.take_zero, List.nil_append])); ((refine hK' _ _ ?_) <;> clear hK' K'))); all_goals refine al_nil ?_)
            (refine ah_one 7 rfl (by kernel_rfl) ?_; (repeat' ((refine al_r rfl fun K' hK' => ?_); (repeat (simp only [go_sem, simprocAttr, List.length_map, hdt, hPl, hPt, hPf, hAp, Nat.zero_add, ha0, ha01, ha3, ha4, Int.toNat_natCast, List.take_nil, List.take_zero, List.nil_append])); ((refine ⟨?_, hK' _ _ ?_⟩) <;> clear hK' K' <;> (first | (show alist _ _ _ _ _ _; skip) | assumption)))); all_goals refine al_nil ?_)
            (refine ah_one 8 rfl (by kernel_rfl) ?_; (repeat' ((refine al_r rfl fun K' hK' => ?_); (repeat (first | (simp only [go_sem, simprocAttr, List.length_map, hdt, hPl, hPt, hPf, hAp, Nat.zero_add, ha0, ha01, ha3, ha4, Int.toNat_natCast, List.take_nil, List.take_zero, List.nil_append]) | refine AAp.grow ?_)); ((refine ⟨?_, hK' _ _ ?_⟩) <;> clear hK' K' <;> (first | (show alist _ _ _ _ _ _; skip) | assumption)))); all_goals refine al_nil ?_)
            ((refine ah_r 9 rfl (by kernel_rfl) rfl fun K' hK' => ?_); (simp only [go_sem, simprocAttr, List.length_map, hdt, hPl, hPt, hPf, hAp, Nat.zero_add, ha0, ha01, ha3, ha4, Int.toNat_natCast, List.take_nil, List.take_zero, List.nil_append]); ((refine hK' _ ?_); clear hK' K'))
            (refine ah_one 10 rfl (by kernel_rfl) ?_; (repeat' ((refine al_d rfl fun K' hK' => ?_); (repeat (first | (simp only [go_sem, simprocAttr, List.length_map, hdt, hPl, hPt, hPf, hAp, Nat.zero_add, ha0, ha01, ha3, ha4, Int.toNat_natCast, List.take_nil, List.take_zero, List.nil_append]) | refine AS.mk ?_)); ((refine ⟨?_, hK' _ _ ?_⟩) <;> clear hK' K' <;> (first | (show alist _ _ _ _ _ _; skip) | (simp; done))))); all_goals refine al_nil ?_)
            (refine ah_done (by kernel_rfl) ?_; (simp only [go_sem, simprocAttr, List.length_map, hdt, hPl, hPt, hPf, hAp, Nat.zero_add, ha0, ha01, ha3, ha4, Int.toNat_natCast, List.take_nil, List.take_zero, List.nil_append]); exact key)
          · ((repeat' ((refine al_r rfl fun K' hK' => ?_); (repeat (simp only [go_sem, simprocAttr, List.length_map, hdt, hPl, hPt, hPf, hAp, Nat.zero_add, ha0, ha01, ha3, ha4, Int.toNat_natCast, List.take_nil, List.take_zero, List.nil_append])); ((refine ⟨?_, hK' _ _ ?_⟩) <;> clear hK' K' <;> (first | (show alist _ _ _ _ _ _; skip) | assumption)))); all_goals refine al_nil ?_)
            (refine ah_one 1 rfl (by kernel_rfl) ?_; (repeat' ((refine al_r rfl fun K' hK' => ?_); (repeat (simp only [go_sem, simprocAttr, List.length_map, hdt, hPl, hPt, hPf, hAp, Nat.zero_add, ha0, ha01, ha3, ha4, Int.toNat_natCast, List.take_nil, List.take_zero, List.nil_append])); ((refine hK' _ _ ?_) <;> clear hK' K'))); all_goals refine al_nil ?_)
            (refine ah_one 8 rfl (by kernel_rfl) ?_; (repeat' ((refine al_r rfl fun K' hK' => ?_); (repeat (first | (simp only [go_sem, simprocAttr, List.length_map, hdt, hPl, hPt, hPf, hAp, Nat.zero_add, ha0, ha01, ha3, ha4, Int.toNat_natCast, List.take_nil, List.take_zero, List.nil_append]) | refine AAp.grow ?_)); ((refine ⟨?_, hK' _ _ ?_⟩) <;> clear hK' K' <;> (first | (show alist _ _ _ _ _ _; skip) | assumption)))); all_goals refine al_nil ?_)
            ((refine ah_r 9 rfl (by kernel_rfl) rfl fun K' hK' => ?_); (simp only [go_sem, simprocAttr, List.length_map, hdt, hPl, hPt, hPf, hAp, Nat.zero_add, ha0, ha01, ha3, ha4, Int.toNat_natCast, List.take_nil, List.take_zero, List.nil_append]); ((refine hK' _ ?_); clear hK' K'))
            (refine ah_one 10 rfl (by kernel_rfl) ?_; (repeat' ((refine al_d rfl fun K' hK' => ?_); (repeat (first | (simp only [go_sem, simprocAttr, List.length_map, hdt, hPl, hPt, hPf, hAp, Nat.zero_add, ha0, ha01, ha3, ha4, Int.toNat_natCast, List.take_nil, List.take_zero, List.nil_append]) | refine AS.mk ?_)); ((refine ⟨?_, hK' _ _ ?_⟩) <;> clear hK' K' <;> (first | (show alist _ _ _ _ _ _; skip) | (simp; done))))); all_goals refine al_nil ?_)
            (refine ah_done (by kernel_rfl) ?_; (simp only [go_sem, simprocAttr, List.length_map, hdt, hPl, hPt, hPf, hAp, Nat.zero_add, ha0, ha01, ha3, ha4, Int.toNat_natCast, List.take_nil, List.take_zero, List.nil_append]); exact key)

      (refine awp_reg_tov [0, 1, 4, 8, 9, 10, 65] [(65, bD (k == 1 || k == 4))] (h := ?_) (k := ?_); · ((repeat' (first | ((first | refine al_r rfl fun K' hK' => ?_ | refine al_t rfl rfl fun K' hK' => ?_); (repeat (simp only [go_sem, simprocAttr, List.length_map, hn1])); ((refine hK' _ _ ?_) <;> clear hK' K')) | refine al_e rfl rfl ?_ | ((fail_if_success (refine al_t rfl rfl fun K' hK' => ?_)); refine al_s _ rfl rfl rfl (fun hb => ?_) (fun hb => ?_)))); all_goals (refine al_nil ?_; simp only [go_sem, simprocAttr, List.length_map, hn1, *, Bool.and_true, Bool.and_false, Bool.true_and, Bool.false_and, Bool.or_true, Bool.true_or, Bool.or_false, Bool.false_or, Bool.not_true, Bool.not_false, Bool.false_eq_true]))); intro K hK; (simp only [go_sem, simprocAttr, List.length_map, hn1]); refine hK _ ?_; clear hK K
      refine awp_if (numK k) rfl (fun hc => ?_) (fun hc => ?_)
      · have hrm : roomN k t p = 1 + (t + 7) / 8 + p + 1 := by unfold roomN; rw [if_pos hc]
        obtain ⟨v, hv1⟩ := get_of_lt (l := h) (i := n + 1) (by omega)
        have hvl := lt_of_get hv1
        have hRa : R0 = atO h n (objO h n k (IntKind.i64.wrap v) t p (n + 2)) (n + 2 + (t + 7) / 8 + p - n) := by
          rw [hv]; unfold atR; rw [if_pos hc, show h.getD (n + 1) 0 = v by simp [List.getD, hv1]]
        have hn2 : IntKind.i64.wrap (((n + 1 : Nat) : Int) + 1) = ((n + 2 : Nat) : Int) := by
          simp [maxLen] at hlen
          rw [Go.Ab.wrap_small (by omega) (by omega)]; rfl
        have hn10 : (0 : Int) ≤ ((n + 1 : Nat) : Int) := Int.natCast_nonneg _

        (refine awp_reg_seq [0, 1, 4, 8, 9, 10] fun K hK => ?_; (repeat' ((first | refine al_r rfl fun K' hK' => ?_ | refine al_d rfl fun K' hK' => ?_); (repeat (first | (simp only [go_sem, simprocAttr, List.length_map, hv1, hvl, hn2, hn10, Int.toNat_natCast, List.getElem?_map, Option.map_some]) | refine AS.mk ?_)); ((first | refine hK' _ _ ?_ | refine ⟨?_, hK' _ _ ?_⟩) <;> clear hK' K' <;> (first | (show alist _ _ _ _ _ _; skip) | (simp; done))))); all_goals (refine al_nil ?_; (simp only [go_sem, simprocAttr, List.length_map, hv1, hvl, hn2, hn10, Int.toNat_natCast, List.getElem?_map, Option.map_some]); refine hK _ ?_; clear hK K))
        (refine awp_reg_end [0, 1, 4, 8, 9, 10] fun K hK => ?_; (repeat' ((refine al_r rfl fun K' hK' => ?_); (repeat (simp only [go_sem, simprocAttr, List.length_map, hv1, hvl, hn2, hn10, Int.toNat_natCast, List.getElem?_map, Option.map_some])); ((refine hK' _ _ ?_) <;> clear hK' K'))); all_goals (refine al_nil ?_; (simp only [go_sem, simprocAttr, List.length_map, hv1, hvl, hn2, hn10, Int.toNat_natCast, List.getElem?_map, Option.map_some]); refine hK _ ?_; clear hK K))
        (refine hcut _ [0, 1, 4, 8, 9, 10] [0, 1] (by decide) (by intro q hq; exact absurd hq (Nat.not_lt_zero q)) ?_; simp only [go_sem, simprocAttr, List.length_map, hv1, hvl, hn2, hn10, Int.toNat_natCast, List.getElem?_map, Option.map_some]; (exact key (n + 2) _ (by omega) (by omega) hRa))
      · have hrm : roomN k t p = 1 + (t + 7) / 8 + p := by unfold roomN; rw [if_neg (by rw [hc]; simp)]; rfl
        have hRb : R0 = atO h n (objO h n k 0 t p (n + 1)) (n + 1 + (t + 7) / 8 + p - n) := by
          rw [hv]; unfold atR; rw [if_neg (by rw [hc]; simp)]

        refine awp_skip ?_
        (refine hcut _ [0, 1, 4, 8, 9, 10] [0, 1] (by decide) (by intro q hq; exact absurd hq (Nat.not_lt_zero q)) ?_; simp only [go_sem, simprocAttr, List.length_map]; (exact key (n + 1) 0 (by omega) (by omega) hRb))
end Go.Proofs.Ytagphggcdmjlpaa.P

/- The objects of a heap, in order: a contract. -/
namespace Go.Proofs.Ytagphggcdmjlpaa.P
open Go.Ab Go.Proofs.Ytagphggcdmjlpaa.T

abbrev objs (l : List Obj) : D := .p (.sl (l.map Obj.row))

theorem at_ok {h : List Int} {a : Int} (he : (atS h a).2 = 0) (hlen : h.length ≤ maxLen) (hok : ∀ w, w ∈ h → WordOk w) : ∃ n : Nat, a = n ∧ n < h.length ∧ (atS h a).1.at_ = n ∧ rightS (atS h a).1 = true ∧ (encW (atS h a).1).length ≤ 4000 ∧
    n + (encW (atS h a).1).length ≤ h.length ∧ encW (atS h a).1 = (h.drop n).take (encW (atS h a).1).length := by
  have key : ∀ (n m : Nat) (o : Obj), n < h.length → o.at_ = n → (atO h n o m).2 = 0 → (atO h n o m).1.at_ = n ∧ rightS (atO h n o m).1 = true ∧ (encW (atO h n o m).1).length ≤ 4000 ∧
      n + (encW (atO h n o m).1).length ≤ h.length ∧ encW (atO h n o m).1 = (h.drop n).take (encW (atO h n o m).1).length := by
    intro n m o hn hoa h1
    unfold atO at h1 ⊢
    by_cases hc : (((putS [] o).2.2 != 0) || !(listEq eqI (putS [] o).1 ((h.drop n).take m))) = true
    · rw [if_pos hc] at h1; cases h1
    · rw [if_neg hc]
      dsimp only
      simp only [Bool.or_eq_true, not_or, bne_iff_ne, ne_eq, Decidable.not_not, Bool.not_eq_true', Bool.not_eq_false] at hc
      obtain ⟨h2, h3⟩ := hc
      have h3 := (listEq_iff eqI_iff).1 h3
      unfold putS at h2 h3
      by_cases hr : (!rightS o) = true
      · rw [if_pos hr] at h2; cases h2
      rw [if_neg hr] at h2 h3
      split at h2
      · cases h2
      · rename_i h4
        rw [if_neg h4] at h3
        simp only [List.nil_append] at h3
        have hl := congrArg List.length h3
        rw [List.length_take, List.length_drop] at hl
        have he := enc_len o
        simp only [List.length_nil, decide_eq_true_eq] at h4
        refine ⟨hoa, by simpa using hr, by omega, by omega, ?_⟩
        rw [h3] at hl ⊢
        rw [List.length_take, List.length_drop, List.take_eq_take_iff]
        simp only [List.length_drop]
        omega
  unfold atS at he ⊢
  by_cases h1 : (decide (a < 0) || decide (a ≥ (h.length : Int))) = true
  · rw [if_pos h1] at he; cases he
  rw [if_neg h1] at he ⊢
  simp at h1
  obtain ⟨n, rfl⟩ := Int.eq_ofNat_of_zero_le h1.1
  have hnl : n < h.length := by omega
  obtain ⟨w, hw⟩ := get_of_lt hnl
  rw [Int.toNat_natCast, hw] at he ⊢
  simp only at he ⊢
  split at he
  · cases he
  · rename_i h2
    rw [if_neg h2]
    refine ⟨n, rfl, hnl, ?_⟩
    unfold atR at he ⊢
    split at he
    · rename_i h3
      rw [if_pos h3]
      exact key n _ _ hnl rfl he
    · rename_i h3
      rw [if_neg h3]
      exact key n _ _ hnl rfl he

/-- What Objects answers from a place on. -/
def objF (h : List Int) : Nat → Nat → List Obj → List Obj × Int
  | 0, _, acc => (acc, 0)
  | f + 1, a, acc => if a < h.length then (if (atS h a).2 != 0 then ([], 3) else objF h f (a + roomN (atS h a).1.kind (atS h a).1.text.size (atS h a).1.parts.length) (acc ++ [(atS h a).1])) else (acc, 0)
def objsS (h : List Int) : List Obj × Int := if decide ((h.length : Int) > 4000) then ([], 2) else objF h (h.length + 1) 0 []


theorem objects (h : List Int) (hlen : h.length ≤ maxLen) (hok : ∀ w, w ∈ h → WordOk w) : ACallP Try.prog 15 [words h] (.tup [objs (objsS h).1, iD (objsS h).2]) := by
  obtain ⟨R0, hR0⟩ : ∃ R0, R0 = objsS h := ⟨_, rfl⟩
  have hv : R0 = if decide ((h.length : Int) > 4000) then ([], 2) else objF h (h.length + 1) 0 [] := hR0
  rw [← hR0]
  clear hR0
  refine acallp_fn [2, 3] Try.func15 rfl rfl Try.ntmps15 (by simp) fun R hR => ?_
  (refine awp_reg_seq [0] fun K hK => ?_; (repeat' ((refine al_r rfl fun K' hK' => ?_); (repeat (simp only [go_sem, simprocAttr, List.length_map])); ((refine hK' _ _ ?_) <;> clear hK' K'))); all_goals (refine al_nil ?_; (simp only [go_sem, simprocAttr, List.length_map]); refine hK _ ?_; clear hK K))
  refine awp_seq_k fun K hK => ?_
  (refine awp_reg_seq [0, 10] fun K hK => ?_; (repeat' ((refine al_r rfl fun K' hK' => ?_); (repeat (simp only [go_sem, simprocAttr, List.length_map])); ((first | refine hK' _ _ ?_ | refine ⟨?_, hK' _ _ ?_⟩) <;> clear hK' K' <;> (first | (show alist _ _ _ _ _ _; skip) | (intro s hs; cases hs; done))))); all_goals (refine al_nil ?_; (simp only [go_sem, simprocAttr, List.length_map]); refine hK _ ?_; clear hK K))
  refine awp_if (decide ((h.length : Int) > 4000)) rfl (fun hc => ?_) (fun hc => ?_)
  · (refine awp_reg_seq [2, 3] fun K hK => ?_; (repeat' ((refine al_r rfl fun K' hK' => ?_); (repeat (simp only [go_sem, simprocAttr, List.length_map])); ((refine hK' _ _ ?_) <;> clear hK' K'))); all_goals (refine al_nil ?_; (simp only [go_sem, simprocAttr, List.length_map]); refine hK _ ?_; clear hK K))
    refine awp_ret ?_; (refine hR _ _ (.inl rfl) rfl ?_)
    rw [if_pos hc] at hv
    rw [hv]
    simp only [go_sem, simprocAttr, List.length_map, List.map_nil]
    rfl
  · rw [if_neg (by rw [hc]; simp)] at hv
    have h4 : h.length ≤ 4000 := by simp at hc; omega
    refine awp_skip ?_
    refine hK _ ?_; clear hK K
    (refine awp_reg_seq [0, 4] fun K hK => ?_; (repeat' ((refine al_r rfl fun K' hK' => ?_); (repeat (simp only [go_sem, simprocAttr, List.length_map])); ((refine hK' _ _ ?_) <;> clear hK' K'))); all_goals (refine al_nil ?_; (simp only [go_sem, simprocAttr, List.length_map]); refine hK _ ?_; clear hK K))
    refine awp_born 4 5 rfl ?_
    refine awp_seq_k fun K hK => ?_
    (refine awp_reg_seq [0, 4, 5] fun K hK => ?_; (repeat' ((refine al_r rfl fun K' hK' => ?_); (repeat (simp only [go_sem, simprocAttr, List.length_map])); ((refine hK' _ _ ?_) <;> clear hK' K'))); all_goals (refine al_nil ?_; (simp only [go_sem, simprocAttr, List.length_map]); refine hK _ ?_; clear hK K))
    refine awp_block ?_
    -- loop 0 head [0, 4, 5]
    refine awp_loop_cut (fun m s => ∃ (a f : Nat) (acc : List Obj), m = h.length - a ∧ a ≤ h.length ∧ acc.length ≤ a ∧ h.length - a < f ∧ R0 = objF h f a acc ∧ s = ⟨ofL [(0, words h), (4, .ref 0 0 acc.length), (5, iD a)], [.row 5 (acc.map Obj.row)], 0⟩) ⟨_, 0, h.length + 1, [], rfl, Nat.zero_le _, Nat.zero_le _, by omega, hv, rfl⟩ ?_
    clear hv
    rintro m s ⟨a, f, acc, hm, hal, hacc, hf, hR1, rfl⟩
    refine awp_seq_k fun K hK => ?_
    (refine awp_reg_seq [0, 4, 5, 14] fun K hK => ?_; (repeat' ((refine al_r rfl fun K' hK' => ?_); (repeat (simp only [go_sem, simprocAttr, List.length_map])); ((first | refine hK' _ _ ?_ | refine ⟨?_, hK' _ _ ?_⟩) <;> clear hK' K' <;> (first | (show alist _ _ _ _ _ _; skip) | (intro s hs; cases hs; done))))); all_goals (refine al_nil ?_; (simp only [go_sem, simprocAttr, List.length_map]); refine hK _ ?_; clear hK K))
    refine awp_if (decide ((a : Int) < (h.length : Int))) rfl (fun hc => ?_) (fun hc => ?_)
    · refine awp_skip ?_
      refine hK _ ?_; clear hK K
      refine awp_block ?_
      have ha2 : a < h.length := by simpa using hc
      obtain ⟨f', rfl⟩ : ∃ f', f = f' + 1 := ⟨f - 1, by omega⟩
      have hR2 : R0 = if (atS h a).2 != 0 then ([], 3) else objF h f' (a + roomN (atS h a).1.kind (atS h a).1.text.size (atS h a).1.parts.length) (acc ++ [(atS h a).1]) := by
        rw [hR1]; show (if a < h.length then _ else _) = _; rw [if_pos ha2]
      clear hR1
      have hat := at_ h a hlen hok
      have haok := at_ok (a := (a : Int)) (h := h)
      generalize atS h a = Q at hat haok hR2
      obtain ⟨o, e⟩ := Q
      simp only at hat haok hR2

      (refine awp_reg_seq [0, 4, 5, 6, 7] fun K hK => ?_; (repeat' ((first | refine al_r rfl fun K' hK' => ?_ | refine al_d rfl fun K' hK' => ?_); (repeat (first | (simp only [go_sem, simprocAttr, List.length_map]) | refine AS.mk ?_)); (first | ((first | refine hK' _ _ ?_ | refine ⟨?_, hK' _ _ ?_⟩) <;> clear hK' K' <;> (first | (show alist _ _ _ _ _ _; skip) | (simp; done))) | ((show AC _ _ (D.fn 19 _) _ _); refine acall_p (f := 19) (e := rfl) (hr := rfl) (k := hK' _ _ ?_) (hc := Try.call19) (h := hat); clear hK' K')))); all_goals (refine al_nil ?_; (simp only [go_sem, simprocAttr, List.length_map]); refine hK _ ?_; clear hK K))
      (refine awp_frz [0, 4, 5, 6, 7] [0] (by decide) (by (simp; done)) ?_; simp only [go_sem, simprocAttr, List.length_map])
      refine awp_seq_k fun K hK => ?_
      (refine awp_reg_seq [0, 4, 5, 6, 22] fun K hK => ?_; (repeat' ((refine al_r rfl fun K' hK' => ?_); (repeat (simp only [go_sem, simprocAttr, List.length_map])); ((refine hK' _ _ ?_) <;> clear hK' K'))); all_goals (refine al_nil ?_; (simp only [go_sem, simprocAttr, List.length_map]); refine hK _ ?_; clear hK K))
      refine awp_if (e != 0) rfl (fun hc => ?_) (fun hc => ?_)
      · (refine awp_reg_seq [2, 3] fun K hK => ?_; (repeat' ((refine al_r rfl fun K' hK' => ?_); (repeat (simp only [go_sem, simprocAttr, List.length_map])); ((refine hK' _ _ ?_) <;> clear hK' K'))); all_goals (refine al_nil ?_; (simp only [go_sem, simprocAttr, List.length_map]); refine hK _ ?_; clear hK K))
        refine awp_ret ?_; (refine hR _ _ (.inl rfl) rfl ?_)
        rw [if_pos hc] at hR2
        rw [hR2]
        simp only [go_sem, simprocAttr, List.length_map, List.map_nil]
        rfl
      · rw [if_neg (by rw [hc]; simp)] at hR2
        obtain ⟨n, hn, hnl, hoa, hri, hel, hel2, _⟩ := haok (by simpa using hc) hlen hok
        obtain rfl : a = n := by omega
        obtain ⟨hs64, hp400⟩ := right_small hri
        rw [enc_len] at hel hel2
        have hro := room o.kind o.text.size o.parts.length (by omega) (by omega)
        have hrm1 : 1 ≤ roomN o.kind o.text.size o.parts.length := by unfold roomN; omega
        generalize roomN o.kind o.text.size o.parts.length = rm at *
        have hwa : IntKind.i64.wrap ((a : Int) + (rm : Int)) = ((a + rm : Nat) : Int) := by rw [Go.Ab.wrap_small (by omega) (by omega)]; rfl
        have hta : List.take acc.length (acc.map Obj.row) = acc.map Obj.row := List.take_of_length_le (by simp)
        have hfa : (acc.length + 1) * 64 ≤ 140737488355328 := by omega

        refine awp_skip ?_
        refine hK _ ?_; clear hK K
        (refine awp_reg_seq [0, 4, 5, 6] fun K hK => ?_; (repeat' ((refine al_r rfl fun K' hK' => ?_); (repeat (first | (simp only [go_sem, simprocAttr, List.length_map, hwa, hta, hfa, List.drop_zero]) | refine AAp.grow ?_)); ((first | refine hK' _ _ ?_ | refine ⟨?_, ?_, hK' _ _ ?_⟩) <;> clear hK' K' <;> (first | (show alist _ _ _ _ _ _; skip) | (simp; done))))); all_goals (refine al_nil ?_; (simp only [go_sem, simprocAttr, List.length_map, hwa, hta, hfa, List.drop_zero]); refine hK _ ?_; clear hK K))
        (refine awp_reg_end [0, 4, 5] fun K hK => ?_; (repeat' ((refine al_r rfl fun K' hK' => ?_); (repeat (simp only [go_sem, simprocAttr, List.length_map, hwa, hta, hfa, List.drop_zero])); (first | ((first | refine hK' _ _ ?_ | refine ⟨?_, hK' _ _ ?_⟩) <;> clear hK' K' <;> (first | (show alist _ _ _ _ _ _; skip) | (intro s hs; cases hs; done) | (simp; done))) | ((show AC _ _ (D.fn 51 _) _ _); refine acall_p (f := 51) (e := rfl) (hr := rfl) (k := hK' _ _ ?_) (hc := Try.call51) (h := hro); clear hK' K')))); all_goals (refine al_nil ?_; (simp only [go_sem, simprocAttr, List.length_map, hwa, hta, hfa, List.drop_zero]); refine hK _ ?_; clear hK K))
        refine ⟨h.length - (a + rm), by omega, [0, 4, 5], [2], by decide, by intro q hq; exact absurd hq (Nat.not_lt_zero q), a + rm, f', acc ++ [o], rfl, hel2, by simp; omega, by omega, hR2, ?_⟩
        simp only [go_sem, simprocAttr, List.length_map, hwa, hta, hfa, List.drop_zero, Obj.row]

    · have hnot : ¬ a < h.length := by simpa using hc
      have hR3 : R0 = (acc, 0) := by
        rw [hR1]
        cases f with
        | zero => rfl
        | succ f => show (if a < h.length then _ else _) = _; rw [if_neg hnot]
      have hta : List.take acc.length (acc.map Obj.row) = acc.map Obj.row := List.take_of_length_le (by simp)
      refine awp_exit ?_
      clear hK
      refine hK _ ?_; clear hK K
      (refine awp_reg_seq [2, 3] fun K hK => ?_; (repeat' ((refine al_r rfl fun K' hK' => ?_); (repeat (simp only [go_sem, simprocAttr, List.length_map])); ((refine hK' _ _ ?_) <;> clear hK' K'))); all_goals (refine al_nil ?_; (simp only [go_sem, simprocAttr, List.length_map]); refine hK _ ?_; clear hK K))
      refine awp_ret ?_; (refine hR _ _ (.inl rfl) rfl ?_)
      rw [hR3]
      simp only [go_sem, simprocAttr, List.length_map, hta]
end Go.Proofs.Ytagphggcdmjlpaa.P

/- Words; the closed fact that the statements on heaps ask for. -/
namespace Go.Proofs.Ytagphggcdmjlpaa.P
open Go.Ab Go.Proofs.Ytagphggcdmjlpaa.T


theorem small (n : Int) : ACallP Try.prog 80 [iD n] (bD (decide (n ≥ -1152921504606846976) && decide (n < 1152921504606846976))) := by
  refine acallp_fn [2] Try.func80 rfl rfl Try.ntmps80 (by simp) fun R hR => ?_
  (refine awp_reg_seq [0] fun K hK => ?_; (repeat' ((refine al_r rfl fun K' hK' => ?_); (repeat (simp only [go_sem, simprocAttr])); ((refine hK' _ _ ?_) <;> clear hK' K'))); all_goals (refine al_nil ?_; (simp only [go_sem, simprocAttr]); refine hK _ ?_; clear hK K))
  (refine awp_reg_seq [2] fun K hK => ?_; (repeat' (first | ((first | refine al_r rfl fun K' hK' => ?_ | refine al_t rfl rfl fun K' hK' => ?_); (repeat (simp only [go_sem, simprocAttr])); ((refine hK' _ _ ?_) <;> clear hK' K')) | refine al_e rfl rfl ?_ | ((fail_if_success (refine al_t rfl rfl fun K' hK' => ?_)); refine al_s _ rfl rfl rfl (fun hb => ?_) (fun hb => ?_)))); all_goals (refine al_nil ?_; (simp only [go_sem, simprocAttr]); refine hK _ ?_; clear hK K))
  all_goals (refine awp_ret ?_; (refine hR _ _ (.inl rfl) rfl ?_); simp only [go_sem, simprocAttr, *, Bool.and_true, Bool.and_false, Bool.true_and, Bool.false_and, Bool.or_true, Bool.true_or, Bool.or_false, Bool.false_or, Bool.not_true, Bool.not_false, Bool.false_eq_true])

/-- May a word have this tag and this number? -/
def fits (t n : Int) : Bool :=
  (t == 0 && n == 0) || (t == 2 && (n == 0 || n == 1)) || (t == 1 && (decide (n ≥ -1152921504606846976) && decide (n < 1152921504606846976))) ||
  ((t == 3 || t == 4) && decide (n ≥ 0) && decide (n < 1152921504606846976))

/-- The word. -/
def wordOf (t n : Int) : Int := Go.bits .or .u64 (IntKind.u64.wrap ((IntKind.u64.wrap n) * 8)) (IntKind.u64.wrap t)


/-- What Word answers. -/
def wordS (t n : Int) : Int × Int := if fits t n = true then (wordOf t n, 0) else if (decide (t < 0) || decide (t > 4)) = true then (0, 1) else (0, 2)

theorem word (t n : Int) : ACallP Try.prog 57 [iD t, iD n] (.tup [wD (wordS t n).1, iD (wordS t n).2]) := by
  refine acallp_fn [4, 5] Try.func57 rfl rfl Try.ntmps57 (by simp) fun R hR => ?_
  (refine awp_reg_seq [0, 1] fun K hK => ?_; (repeat' ((refine al_r rfl fun K' hK' => ?_); (repeat (simp only [go_sem, simprocAttr])); ((refine hK' _ _ ?_) <;> clear hK' K'))); all_goals (refine al_nil ?_; (simp only [go_sem, simprocAttr]); refine hK _ ?_; clear hK K))
  refine awp_seq_k fun K hK => ?_
  refine awp_block ?_
  refine awp_seq_k fun K hK => ?_
  have key : ∀ b, b = fits t n → K ⟨ofL [(0, iD t), (1, iD n), (6, bD b)], [], 0⟩ := by
    rintro b rfl
    refine hK _ ?_; clear hK K
    refine awp_if (fits t n) rfl (fun hc => ?_) (fun hc => ?_)
    · (refine awp_reg_seq [4, 5] fun K hK => ?_; (repeat' ((refine al_r rfl fun K' hK' => ?_); (repeat (simp only [go_sem, simprocAttr])); ((refine hK' _ _ ?_) <;> clear hK' K'))); all_goals (refine al_nil ?_; (simp only [go_sem, simprocAttr]); refine hK _ ?_; clear hK K))
      refine awp_ret ?_; (refine hR _ _ (.inl rfl) rfl ?_)
      simp [go_sem, wordS, hc, wordOf]
    · refine awp_reg_to [49] (k := ?_) (h := ?_) (s1 := ⟨ofL [(49, bD (decide (t < 0) || decide (t > 4)))], [], 0⟩); · ((repeat' (first | ((first | refine al_r rfl fun K' hK' => ?_ | refine al_t rfl rfl fun K' hK' => ?_); (repeat (simp only [go_sem, simprocAttr])); ((refine hK' _ _ ?_) <;> clear hK' K')) | refine al_e rfl rfl ?_ | ((fail_if_success (refine al_t rfl rfl fun K' hK' => ?_)); refine al_s _ rfl rfl rfl (fun hb => ?_) (fun hb => ?_)))); all_goals (refine al_nil ?_; simp only [go_sem, simprocAttr, *, Bool.and_true, Bool.and_false, Bool.true_and, Bool.false_and, Bool.or_true, Bool.true_or, Bool.or_false, Bool.false_or, Bool.not_true, Bool.not_false, Bool.false_eq_true]))
      refine awp_if (_) rfl (fun hc => ?_) (fun hc => ?_)
      · (refine awp_reg_seq [4, 5] fun K hK => ?_; (repeat' ((refine al_r rfl fun K' hK' => ?_); (repeat (simp only [go_sem, simprocAttr])); ((refine hK' _ _ ?_) <;> clear hK' K'))); all_goals (refine al_nil ?_; (simp only [go_sem, simprocAttr]); refine hK _ ?_; clear hK K))
        refine awp_ret ?_; (refine hR _ _ (.inl rfl) rfl ?_)
        simp only [wordS, *, go_sem, simprocAttr]
      · refine awp_skip ?_
        refine hK _ ?_; clear hK K
        (refine awp_reg_seq [4, 5] fun K hK => ?_; (repeat' ((refine al_r rfl fun K' hK' => ?_); (repeat (simp only [go_sem, simprocAttr])); ((refine hK' _ _ ?_) <;> clear hK' K'))); all_goals (refine al_nil ?_; (simp only [go_sem, simprocAttr]); refine hK _ ?_; clear hK K))
        refine awp_ret ?_; (refine hR _ _ (.inl rfl) rfl ?_)
        simp only [wordS, *, go_sem, simprocAttr]
  clear hK
  refine awp_reg_to [0, 1, 6] (k := ?_) (h := ?_) (s1 := ⟨ofL [(0, iD t), (1, iD n), (6, bD (t == 0 && n == 0))], [], 0⟩); · ((repeat' (first | ((first | refine al_r rfl fun K' hK' => ?_ | refine al_t rfl rfl fun K' hK' => ?_); (repeat (simp only [go_sem, simprocAttr])); ((refine hK' _ _ ?_) <;> clear hK' K')) | refine al_e rfl rfl ?_ | ((fail_if_success (refine al_t rfl rfl fun K' hK' => ?_)); refine al_s _ rfl rfl rfl (fun hb => ?_) (fun hb => ?_)))); all_goals (refine al_nil ?_; simp only [go_sem, simprocAttr, *, Bool.and_true, Bool.and_false, Bool.true_and, Bool.false_and, Bool.or_true, Bool.true_or, Bool.or_false, Bool.false_or, Bool.not_true, Bool.not_false, Bool.false_eq_true]))
  refine awp_if (_) rfl (fun hc => ?_) (fun hc => ?_)
  · refine awp_skip ?_
    refine key _ ?_
    simp [fits, hc]
  · refine awp_reg_to [0, 1, 6] (k := ?_) (h := ?_) (s1 := ⟨ofL [(0, iD t), (1, iD n), (6, bD (t == 2 && (n == 0 || n == 1)))], [], 0⟩); · ((repeat' (first | ((first | refine al_r rfl fun K' hK' => ?_ | refine al_t rfl rfl fun K' hK' => ?_); (repeat (simp only [go_sem, simprocAttr])); ((refine hK' _ _ ?_) <;> clear hK' K')) | refine al_e rfl rfl ?_ | refine al_u rfl rfl ?_ | ((fail_if_success (refine al_t rfl rfl fun K' hK' => ?_)); refine al_s _ rfl rfl rfl (fun hb => ?_) (fun hb => ?_)))); all_goals (refine al_nil ?_; simp only [go_sem, simprocAttr, *, Bool.and_true, Bool.and_false, Bool.true_and, Bool.false_and, Bool.or_true, Bool.true_or, Bool.or_false, Bool.false_or, Bool.not_true, Bool.not_false, Bool.false_eq_true]))
    refine awp_if (_) rfl (fun hc => ?_) (fun hc => ?_)
    · refine awp_skip ?_
      refine key _ ?_
      simp [fits, hc]
    · refine awp_reg_to [0, 1, 6] (k := ?_) (h := ?_) (s1 := ⟨ofL [(0, iD t), (1, iD n), (6, bD (t == 1 && (decide (n ≥ -1152921504606846976) && decide (n < 1152921504606846976))))], [], 0⟩); · ((repeat' (first | ((first | refine al_r rfl fun K' hK' => ?_ | refine al_t rfl rfl fun K' hK' => ?_); (repeat (simp only [go_sem, simprocAttr])); (first | ((refine hK' _ _ ?_) <;> clear hK' K') | ((show AC _ _ (D.fn 80 _) _ _); refine acall_p (f := 80) (e := rfl) (hr := rfl) (k := hK' _ _ ?_) (hc := Try.call80) (h := small _); clear hK' K'))) | refine al_e rfl rfl ?_ | ((fail_if_success (refine al_t rfl rfl fun K' hK' => ?_)); refine al_s _ rfl rfl rfl (fun hb => ?_) (fun hb => ?_)))); all_goals (refine al_nil ?_; simp only [go_sem, simprocAttr, *, Bool.and_true, Bool.and_false, Bool.true_and, Bool.false_and, Bool.or_true, Bool.true_or, Bool.or_false, Bool.false_or, Bool.not_true, Bool.not_false, Bool.false_eq_true]))
      refine awp_if (_) rfl (fun hc => ?_) (fun hc => ?_)
      · refine awp_skip ?_
        refine key _ ?_
        simp only [fits, hc, Bool.or_true, Bool.true_or]
      · refine awp_reg_end_to [0, 1, 6] (k := ?_) (h := ?_) (s1 := ⟨ofL [(0, iD t), (1, iD n), (6, bD ((t == 3 || t == 4) && decide (n ≥ 0) && decide (n < 1152921504606846976)))], [], 0⟩); · ((repeat' (first | ((first | refine al_r rfl fun K' hK' => ?_ | refine al_t rfl rfl fun K' hK' => ?_); (repeat (simp only [go_sem, simprocAttr])); ((refine hK' _ _ ?_) <;> clear hK' K')) | refine al_e rfl rfl ?_ | ((fail_if_success (refine al_t rfl rfl fun K' hK' => ?_)); refine al_s _ rfl rfl rfl (fun hb => ?_) (fun hb => ?_)))); all_goals (refine al_nil ?_; simp only [go_sem, simprocAttr, *, Bool.and_true, Bool.and_false, Bool.true_and, Bool.false_and, Bool.or_true, Bool.true_or, Bool.or_false, Bool.false_or, Bool.not_true, Bool.not_false, Bool.false_eq_true]))
        refine key _ ?_
        simp only [fits, *, Bool.or_false, Bool.false_or]


abbrev valD (k n : Int) (t : ByteArray) (a : List (List PV)) : D := .agg [iD k, iD n, .p (.lit (.string t)), .p (.sl a)]


theorem ofText (n : Int) (t : ByteArray) (a : List (List PV)) : ACallP Try.prog 56 [valD 4 n t a] (.tup [wD 0, bD false]) := by
  refine acallp_fn [2, 3] Try.func56 rfl rfl Try.ntmps56 (by simp) fun R hR => ?_
  (refine awp_reg_seq [1] fun K hK => ?_; (repeat' ((refine al_r rfl fun K' hK' => ?_); (repeat (simp only [go_sem, simprocAttr])); ((refine hK' _ _ ?_) <;> clear hK' K'))); all_goals (refine al_nil ?_; (simp only [go_sem, simprocAttr]); refine hK _ ?_; clear hK K))
  (refine awp_frz [1] [] (by decide) (by (simp; done)) ?_; simp only [go_sem, simprocAttr])
  (refine awp_reg_seq [1, 4] fun K hK => ?_; (repeat' ((refine al_r rfl fun K' hK' => ?_); (repeat (simp only [go_sem, simprocAttr])); ((refine hK' _ _ ?_) <;> clear hK' K'))); all_goals (refine al_nil ?_; (simp only [go_sem, simprocAttr]); refine hK _ ?_; clear hK K))
  refine awp_seq_k fun K hK => ?_
  (refine awp_reg_seq [1, 4, 8] fun K hK => ?_; (repeat' ((refine al_r rfl fun K' hK' => ?_); (repeat (simp only [go_sem, simprocAttr])); ((refine hK' _ _ ?_) <;> clear hK' K'))); all_goals (refine al_nil ?_; (simp only [go_sem, simprocAttr]); refine hK _ ?_; clear hK K))
  refine awp_block ?_
  (refine awp_reg_seq [1, 4, 8, 9] fun K hK => ?_; (repeat' ((refine al_r rfl fun K' hK' => ?_); (repeat (simp only [go_sem, simprocAttr])); ((refine hK' _ _ ?_) <;> clear hK' K'))); all_goals (refine al_nil ?_; (simp only [go_sem, simprocAttr]); refine hK _ ?_; clear hK K))
  refine awp_if (_) rfl (fun hc => ?_) (fun hc => ?_)
  · cases hc
  · (refine awp_reg_seq [1, 4, 8, 11] fun K hK => ?_; (repeat' ((refine al_r rfl fun K' hK' => ?_); (repeat (simp only [go_sem, simprocAttr])); ((refine hK' _ _ ?_) <;> clear hK' K'))); all_goals (refine al_nil ?_; (simp only [go_sem, simprocAttr]); refine hK _ ?_; clear hK K))
    refine awp_if (_) rfl (fun hc => ?_) (fun hc => ?_)
    · cases hc
    · (refine awp_reg_seq [1, 4, 8, 13] fun K hK => ?_; (repeat' ((refine al_r rfl fun K' hK' => ?_); (repeat (simp only [go_sem, simprocAttr])); ((refine hK' _ _ ?_) <;> clear hK' K'))); all_goals (refine al_nil ?_; (simp only [go_sem, simprocAttr]); refine hK _ ?_; clear hK K))
      refine awp_if (_) rfl (fun hc => ?_) (fun hc => ?_)
      · cases hc
      · (refine awp_reg_seq [1, 4, 15] fun K hK => ?_; (repeat' ((refine al_r rfl fun K' hK' => ?_); (repeat (simp only [go_sem, simprocAttr])); ((refine hK' _ _ ?_) <;> clear hK' K'))); all_goals (refine al_nil ?_; (simp only [go_sem, simprocAttr]); refine hK _ ?_; clear hK K))
        refine awp_if (_) rfl (fun hc => ?_) (fun hc => ?_)
        · cases hc
        · refine awp_skip ?_
          refine hK _ ?_; clear hK K
          refine awp_seq_k fun K hK => ?_
          (refine awp_reg_tov [1, 4, 29] [(29, bD true)] (h := ?_) (k := ?_); · ((repeat' (first | ((refine al_r rfl fun K' hK' => ?_); (repeat (simp only [go_sem, simprocAttr])); ((refine hK' _ _ ?_) <;> clear hK' K')) | refine al_e rfl rfl ?_)); all_goals (refine al_nil ?_; simp only [go_sem, simprocAttr, *, Bool.and_true, Bool.and_false, Bool.true_and, Bool.false_and, Bool.or_true, Bool.true_or, Bool.or_false, Bool.false_or, Bool.not_true, Bool.not_false, Bool.false_eq_true]))); intro K hK; (simp only [go_sem, simprocAttr]); refine hK _ ?_; clear hK K
          refine awp_if (_) rfl (fun hc => ?_) (fun hc => ?_)
          · (refine awp_reg_seq [2, 3] fun K hK => ?_; (repeat' ((refine al_r rfl fun K' hK' => ?_); (repeat (simp only [go_sem, simprocAttr])); ((refine hK' _ _ ?_) <;> clear hK' K'))); all_goals (refine al_nil ?_; (simp only [go_sem, simprocAttr]); refine hK _ ?_; clear hK K))
            all_goals (refine awp_ret ?_; (refine hR _ _ (.inl rfl) rfl ?_); (simp only [go_sem, simprocAttr, *, Bool.and_true, Bool.and_false, Bool.true_and, Bool.false_and, Bool.or_true, Bool.true_or, Bool.or_false, Bool.false_or, Bool.not_true, Bool.not_false, Bool.false_eq_true]; done))
          · cases hc

abbrev oA : Obj := ⟨0, 2, 0, ⟨#[97]⟩, []⟩
theorem putA : ACallP Try.prog 17 [words [], objD oA] (.tup [words [258, 97], iD 0, iD 0]) := by
  have h := put [] oA (by simp)
  rw [show putS [] oA = ([258, 97], 0, 0) by kernel_rfl] at h
  exact h
theorem wordA : ACallP Try.prog 57 [iD 4, iD 0] (.tup [wD 4, iD 0]) := by
  have h := word 4 0
  rw [show wordS 4 0 = (4, 0) by kernel_rfl] at h
  exact h


theorem buildA : ACallP Try.prog 23 [words [], valD 4 0 ⟨#[97]⟩ []] (.tup [words [258, 97], wD 4, iD 0]) := by
  refine acallp_fn [4, 5, 6] Try.func23 rfl rfl Try.ntmps23 (by simp) fun R hR => ?_
  (refine awp_reg_seq [0, 3] fun K hK => ?_; (repeat' ((refine al_r rfl fun K' hK' => ?_); (repeat (simp only [go_sem, simprocAttr])); ((refine hK' _ _ ?_) <;> clear hK' K'))); all_goals (refine al_nil ?_; (simp only [go_sem, simprocAttr]); refine hK _ ?_; clear hK K))
  (refine awp_frz [0, 3] [] (by decide) (by (simp; done)) ?_; simp only [go_sem, simprocAttr])
  refine awp_seq_k fun K hK => ?_
  (refine awp_reg_seq [0, 3, 7, 8] fun K hK => ?_; (repeat' ((refine al_r rfl fun K' hK' => ?_); (repeat (simp only [go_sem, simprocAttr])); (first | ((refine hK' _ _ ?_) <;> clear hK' K') | ((show AC _ _ (D.fn 56 _) _ _); refine acall_p (f := 56) (e := rfl) (hr := rfl) (k := hK' _ _ ?_) (hc := Try.call56) (h := (ofText _ _ _)); clear hK' K')))); all_goals (refine al_nil ?_; (simp only [go_sem, simprocAttr]); refine hK _ ?_; clear hK K))
  (refine awp_reg_seq [0, 3, 7, 24] fun K hK => ?_; (repeat' ((refine al_r rfl fun K' hK' => ?_); (repeat (simp only [go_sem, simprocAttr])); ((refine hK' _ _ ?_) <;> clear hK' K'))); all_goals (refine al_nil ?_; (simp only [go_sem, simprocAttr]); refine hK _ ?_; clear hK K))
  refine awp_if (_) rfl (fun hc => ?_) (fun hc => ?_)
  · cases hc
  · refine awp_skip ?_
    refine hK _ ?_; clear hK K
    (refine awp_reg_seq [0, 3, 9] fun K hK => ?_; (repeat' ((first | refine al_r rfl fun K' hK' => ?_ | refine al_d rfl fun K' hK' => ?_); (repeat (first | (simp only [go_sem, simprocAttr]) | refine AS.mk ?_)); ((first | refine hK' _ _ ?_ | refine ⟨?_, hK' _ _ ?_⟩) <;> clear hK' K' <;> (first | (show alist _ _ _ _ _ _; skip) | (simp; done))))); all_goals (refine al_nil ?_; (simp only [go_sem, simprocAttr]); refine hK _ ?_; clear hK K))
    refine awp_seq_k fun K hK => ?_
    (refine awp_reg_seq [0, 3, 9, 32] fun K hK => ?_; (repeat' ((refine al_r rfl fun K' hK' => ?_); (repeat (simp only [go_sem, simprocAttr])); ((refine hK' _ _ ?_) <;> clear hK' K'))); all_goals (refine al_nil ?_; (simp only [go_sem, simprocAttr]); refine hK _ ?_; clear hK K))
    refine awp_block ?_
    (refine awp_reg_seq [0, 3, 9, 32, 33] fun K hK => ?_; (repeat' ((refine al_r rfl fun K' hK' => ?_); (repeat (simp only [go_sem, simprocAttr])); ((refine hK' _ _ ?_) <;> clear hK' K'))); all_goals (refine al_nil ?_; (simp only [go_sem, simprocAttr]); refine hK _ ?_; clear hK K))
    refine awp_if (_) rfl (fun hc => ?_) (fun hc => ?_)
    · cases hc
    · (refine awp_reg_seq [0, 3, 9, 32, 39] fun K hK => ?_; (repeat' ((refine al_r rfl fun K' hK' => ?_); (repeat (simp only [go_sem, simprocAttr])); ((refine hK' _ _ ?_) <;> clear hK' K'))); all_goals (refine al_nil ?_; (simp only [go_sem, simprocAttr]); refine hK _ ?_; clear hK K))
      refine awp_if (_) rfl (fun hc => ?_) (fun hc => ?_)
      · (refine awp_reg_end [0, 3, 9] fun K hK => ?_; (repeat' ((first | refine al_r rfl fun K' hK' => ?_ | refine al_d rfl fun K' hK' => ?_); (repeat (first | (simp only [go_sem, simprocAttr]) | refine AS.mk ?_)); ((first | refine hK' _ _ ?_ | refine ⟨?_, hK' _ _ ?_⟩) <;> clear hK' K' <;> (first | (show alist _ _ _ _ _ _; skip) | (simp; done))))); all_goals (refine al_nil ?_; (simp only [go_sem, simprocAttr]); refine hK _ ?_; clear hK K))
        refine hK _ ?_; clear hK K
        refine awp_seq_k fun K hK => ?_
        (refine awp_reg_seq [0, 3, 9, 61] fun K hK => ?_; (repeat' (first | ((refine al_r rfl fun K' hK' => ?_); (repeat (simp only [go_sem, simprocAttr])); ((refine hK' _ _ ?_) <;> clear hK' K')) | refine al_e rfl rfl ?_)); all_goals (refine al_nil ?_; (simp only [go_sem, simprocAttr]); refine hK _ ?_; clear hK K))
        refine awp_if (_) rfl (fun hc => ?_) (fun hc => ?_)
        · cases hc
        · refine awp_skip ?_
          refine hK _ ?_; clear hK K
          refine awp_seq_k fun K hK => ?_
          (refine awp_reg_seq [0, 9, 63, 64, 65] fun K hK => ?_; (repeat' ((refine al_r rfl fun K' hK' => ?_); (repeat (simp only [go_sem, simprocAttr])); ((first | refine hK' _ _ ?_ | refine ⟨?_, hK' _ _ ?_⟩) <;> clear hK' K' <;> (first | (show alist _ _ _ _ _ _; skip) | (intro s hs; cases hs; done))))); all_goals (refine al_nil ?_; (simp only [go_sem, simprocAttr]); refine hK _ ?_; clear hK K))
          refine awp_block ?_
          -- loop 0 head [0, 9, 63, 64, 65]
          refine awp_loop (fun m s => m = 0 ∧ s = ⟨ofL [(0, words []), (9, .ptr 0 0 0), (63, .p (.sl [])), (64, iD 0), (65, iD 0)], [.box [iD 0, iD 2, iD 0, .p (.lit (.string ⟨#[97]⟩)), .nil]], 0⟩) ⟨_, rfl, rfl⟩ ?_
          rintro m s ⟨hm, rfl⟩
          (refine awp_reg_seq [0, 9, 63, 64, 65, 66] fun K hK => ?_; (repeat' ((refine al_r rfl fun K' hK' => ?_); (repeat (simp only [go_sem, simprocAttr])); ((refine hK' _ _ ?_) <;> clear hK' K'))); all_goals (refine al_nil ?_; (simp only [go_sem, simprocAttr]); refine hK _ ?_; clear hK K))
          refine awp_seq_k fun K hK => ?_
          refine awp_if (_) rfl (fun hc => ?_) (fun hc => ?_)
          · cases hc
          · refine awp_exit ?_
            clear hK
            refine hK _ ?_; clear hK K
            (refine awp_frz [0, 9] [] (by decide) (by (simp; done)) ?_; simp only [go_sem, simprocAttr])
            (refine awp_reg_seq [15, 16, 17] fun K hK => ?_; (repeat' ((refine al_r rfl fun K' hK' => ?_); (repeat (simp only [go_sem, simprocAttr])); (first | ((refine hK' _ _ ?_) <;> clear hK' K') | ((show AC _ _ (D.fn 17 _) _ _); refine acall_p (f := 17) (e := rfl) (hr := rfl) (k := hK' _ _ ?_) (hc := Try.call17) (h := putA); clear hK' K')))); all_goals (refine al_nil ?_; (simp only [go_sem, simprocAttr]); refine hK _ ?_; clear hK K))
            refine awp_seq_k fun K hK => ?_
            (refine awp_reg_seq [15, 16, 17, 95] fun K hK => ?_; (repeat' ((refine al_r rfl fun K' hK' => ?_); (repeat (simp only [go_sem, simprocAttr])); ((refine hK' _ _ ?_) <;> clear hK' K'))); all_goals (refine al_nil ?_; (simp only [go_sem, simprocAttr]); refine hK _ ?_; clear hK K))
            refine awp_if (_) rfl (fun hc => ?_) (fun hc => ?_)
            · cases hc
            · refine awp_skip ?_
              refine hK _ ?_; clear hK K
              (refine awp_reg_seq [15, 17, 18] fun K hK => ?_; (repeat' ((refine al_r rfl fun K' hK' => ?_); (repeat (simp only [go_sem, simprocAttr])); (first | ((refine hK' _ _ ?_) <;> clear hK' K') | ((show AC _ _ (D.fn 57 _) _ _); refine acall_p (f := 57) (e := rfl) (hr := rfl) (k := hK' _ _ ?_) (hc := Try.call57) (h := wordA); clear hK' K')))); all_goals (refine al_nil ?_; (simp only [go_sem, simprocAttr]); refine hK _ ?_; clear hK K))
              (refine awp_reg_seq [4, 5, 6] fun K hK => ?_; (repeat' ((refine al_r rfl fun K' hK' => ?_); (repeat (simp only [go_sem, simprocAttr])); ((refine hK' _ _ ?_) <;> clear hK' K'))); all_goals (refine al_nil ?_; (simp only [go_sem, simprocAttr]); refine hK _ ?_; clear hK K))
              all_goals (refine awp_ret ?_; (refine hR _ _ (.inl rfl) rfl ?_); (simp only [go_sem, simprocAttr, *, Bool.and_true, Bool.and_false, Bool.true_and, Bool.false_and, Bool.or_true, Bool.true_or, Bool.or_false, Bool.false_or, Bool.not_true, Bool.not_false, Bool.false_eq_true]; done))
      · cases hc

theorem buildB : ACallP Try.prog 23 [.nil, .agg [iD 4, iD 0, .p (.lit (.string ⟨#[97]⟩)), .nil]] (.tup [words [258, 97], wD 4, iD 0]) := ACallP.soft buildA rfl


theorem heaps : ACallP Try.prog 16 [] (bD true) := by
  refine acallp_fn [0] Try.func16 rfl rfl Try.ntmps16 (by simp) fun R hR => ?_
  (refine awp_reg_seq [] fun K hK => ?_; (repeat' ((refine al_r rfl fun K' hK' => ?_); (repeat (simp only [go_sem, simprocAttr, beq_self_eq_true])); ((refine hK' _ _ ?_) <;> clear hK' K'))); all_goals (refine al_nil ?_; (simp only [go_sem, simprocAttr, beq_self_eq_true]); refine hK _ ?_; clear hK K))
  (refine awp_reg_seq [1, 2, 3] fun K hK => ?_; (repeat' ((refine al_r rfl fun K' hK' => ?_); (repeat (simp only [go_sem, simprocAttr, beq_self_eq_true])); (first | ((refine hK' _ _ ?_) <;> clear hK' K') | ((show AC _ _ (D.fn 23 _) _ _); refine acall_p (f := 23) (e := rfl) (hr := rfl) (k := hK' _ _ ?_) (hc := Try.call23) (h := buildB); clear hK' K')))); all_goals (refine al_nil ?_; (simp only [go_sem, simprocAttr, beq_self_eq_true]); refine hK _ ?_; clear hK K))
  (refine awp_reg_tov [0] [(0, bD true)] (h := ?_) (k := ?_); · ((repeat' ((first | refine al_r rfl fun K' hK' => ?_ | refine al_t rfl rfl fun K' hK' => ?_); (repeat (simp only [go_sem, simprocAttr, beq_self_eq_true])); ((first | refine hK' _ _ ?_ | refine ⟨?_, hK' _ _ ?_⟩) <;> clear hK' K' <;> (first | (show alist _ _ _ _ _ _; skip) | (intro s hs; cases hs; done))))); all_goals (refine al_nil ?_; simp only [go_sem, simprocAttr, beq_self_eq_true, *, Bool.and_true, Bool.and_false, Bool.true_and, Bool.false_and, Bool.or_true, Bool.true_or, Bool.or_false, Bool.false_or, Bool.not_true, Bool.not_false, Bool.false_eq_true]))); intro K hK; (simp only [go_sem, simprocAttr, beq_self_eq_true]); refine hK _ ?_; clear hK K
  all_goals (refine awp_ret ?_; (refine hR _ _ (.inl rfl) rfl ?_); (simp only [go_sem, simprocAttr, beq_self_eq_true, *, Bool.and_true, Bool.and_false, Bool.true_and, Bool.false_and, Bool.or_true, Bool.true_or, Bool.or_false, Bool.false_or, Bool.not_true, Bool.not_false, Bool.false_eq_true]; done))
end Go.Proofs.Ytagphggcdmjlpaa.P

/- What the function of the statement HeapAll answers. -/
namespace Go.Proofs.Ytagphggcdmjlpaa.P
open Go.Ab Go.Proofs.Ytagphggcdmjlpaa.T

/-- Objects that lie one behind the other in a heap, from a place on to its end. -/
def Chain (h : List Int) : Nat → List Obj → Prop
  | a, [] => a = h.length
  | a, o :: l => o.at_ = a ∧ rightS o = true ∧ encW o = (h.drop a).take (encW o).length ∧ a + (encW o).length ≤ h.length ∧ Chain h (a + (encW o).length) l

theorem objF_chain {h : List Int} (hlen : h.length ≤ maxLen) (hok : ∀ w, w ∈ h → WordOk w) : ∀ (f a : Nat) (acc l : List Obj), h.length - a < f → a ≤ h.length → objF h f a acc = (l, 0) → ∃ l', l = acc ++ l' ∧ Chain h a l'
  | 0, a, acc, l, hf, _, _ => by omega
  | f + 1, a, acc, l, hf, ha, h1 => by
    unfold objF at h1
    by_cases hlt : a < h.length
    · rw [if_pos hlt] at h1
      by_cases he : ((atS h a).2 != 0) = true
      · rw [if_pos he] at h1; cases h1
      · rw [if_neg he] at h1
        obtain ⟨n, hn, hnl, hoa, hri, h4, h5, h6⟩ := at_ok (by simpa using he) hlen hok
        obtain rfl : a = n := by omega
        have hel := enc_len (atS h a).1
        rw [← hel] at h1
        have hpos : 1 ≤ (encW (atS h a).1).length := by simp [encW]
        obtain ⟨l', hl, hc⟩ := objF_chain hlen hok f _ _ l (by omega) h5 h1
        exact ⟨(atS h a).1 :: l', by rw [hl]; simp, hoa, hri, h6, h5, hc⟩
    · rw [if_neg hlt] at h1
      cases h1
      exact ⟨[], by simp, by show a = h.length; omega⟩

theorem put_chain {h : List Int} {a : Nat} {o : Obj} (h4 : h.length ≤ 4000) (hri : rightS o = true) (h1 : encW o = (h.drop a).take (encW o).length) (h2 : a + (encW o).length ≤ h.length) :
    putS (h.take a) o = (h.take (a + (encW o).length), (a : Int), 0) := by
  have hel := enc_len o
  unfold putS
  rw [hri, ← hel]
  have hl : (h.take a).length = a := by rw [List.length_take]; omega
  rw [if_neg (by simp), if_neg (by rw [hl]; simp; omega), hl]
  have : h.take a ++ encW o = h.take (a + (encW o).length) := by
    rw [h1, List.length_take, List.length_drop, Nat.min_eq_left (by omega), ← List.take_add]
  rw [this]


theorem allBad (h : List Int) (e : Int) (he : (e != 0) = true) (hob : ACallP Try.prog 15 [words h] (.tup [objs [], iD e])) : ACallP Try.prog 3 [words h] (bD true) := by
  refine acallp_fn [2] Try.func3 rfl rfl Try.ntmps3 (by simp) fun R hR => ?_
  (refine awp_reg_seq [0] fun K hK => ?_; (repeat' ((refine al_r rfl fun K' hK' => ?_); (repeat (simp only [go_sem, simprocAttr, List.length_map, List.length_nil, he, beq_self_eq_true])); ((refine hK' _ _ ?_) <;> clear hK' K'))); all_goals (refine al_nil ?_; (simp only [go_sem, simprocAttr, List.length_map, List.length_nil, he, beq_self_eq_true]); refine hK _ ?_; clear hK K))
  (refine awp_reg_seq [0, 3, 4] fun K hK => ?_; (repeat' ((refine al_r rfl fun K' hK' => ?_); (repeat (simp only [go_sem, simprocAttr, List.length_map, List.length_nil, he, beq_self_eq_true])); (first | ((refine hK' _ _ ?_) <;> clear hK' K') | ((show AC _ _ (D.fn 15 _) _ _); refine acall_p (f := 15) (e := rfl) (hr := rfl) (k := hK' _ _ ?_) (hc := Try.call15) (h := hob); clear hK' K')))); all_goals (refine al_nil ?_; (simp only [go_sem, simprocAttr, List.length_map, List.length_nil, he, beq_self_eq_true]); refine hK _ ?_; clear hK K))
  refine awp_seq_k fun K hK => ?_
  (refine awp_reg_tov [0, 3, 21] [(3, objs []), (21, bD true)] (h := ?_) (k := ?_); · ((repeat' ((first | refine al_r rfl fun K' hK' => ?_ | refine al_t rfl rfl fun K' hK' => ?_); (repeat (simp only [go_sem, simprocAttr, List.length_map, List.length_nil, he, beq_self_eq_true])); (first | ((refine hK' _ _ ?_) <;> clear hK' K') | ((show AC _ _ (D.fn 16 _) _ _); refine acall_p (f := 16) (e := rfl) (hr := rfl) (k := hK' _ _ ?_) (hc := Try.call16) (h := heaps); clear hK' K')))); all_goals (refine al_nil ?_; simp only [go_sem, simprocAttr, List.length_map, List.length_nil, he, beq_self_eq_true, *, Bool.and_true, Bool.and_false, Bool.true_and, Bool.false_and, Bool.or_true, Bool.true_or, Bool.or_false, Bool.false_or, Bool.not_true, Bool.not_false, Bool.false_eq_true]))); intro K hK; (simp only [go_sem, simprocAttr, List.length_map, List.length_nil, he, beq_self_eq_true]); refine hK _ ?_; clear hK K
  refine awp_if (_) rfl (fun hc => ?_) (fun hc => ?_)

  · (refine awp_reg_tov [2] [(2, bD true)] (h := ?_) (k := ?_); · ((repeat' ((first | refine al_r rfl fun K' hK' => ?_ | refine al_t rfl rfl fun K' hK' => ?_); (repeat (simp only [go_sem, simprocAttr, List.length_map, List.length_nil, List.map_nil, cast0, beq_self_eq_true])); (first | ((first | refine hK' _ _ ?_ | refine ⟨?_, hK' _ _ ?_⟩) <;> clear hK' K' <;> (first | (show alist _ _ _ _ _ _; skip) | (intro s hs; cases hs; done))) | ((show AC _ _ (D.fn 16 _) _ _); refine acall_p (f := 16) (e := rfl) (hr := rfl) (k := hK' _ _ ?_) (hc := Try.call16) (h := heaps); clear hK' K')))); all_goals (refine al_nil ?_; simp only [go_sem, simprocAttr, List.length_map, List.length_nil, List.map_nil, cast0, beq_self_eq_true, *, Bool.and_true, Bool.and_false, Bool.true_and, Bool.false_and, Bool.or_true, Bool.true_or, Bool.or_false, Bool.false_or, Bool.not_true, Bool.not_false, Bool.false_eq_true]))); intro K hK; (simp only [go_sem, simprocAttr, List.length_map, List.length_nil, List.map_nil, cast0, beq_self_eq_true]); refine hK _ ?_; clear hK K
    all_goals (refine awp_ret ?_; (refine hR _ _ (.inl rfl) rfl ?_); (simp only [go_sem, simprocAttr, List.length_map, List.length_nil, List.map_nil, cast0, beq_self_eq_true, *, Bool.and_true, Bool.and_false, Bool.true_and, Bool.false_and, Bool.or_true, Bool.true_or, Bool.or_false, Bool.false_or, Bool.not_true, Bool.not_false, Bool.false_eq_true]; done))
  · cases hc


theorem allGood (h : List Int) (l : List Obj) (h4 : h.length ≤ 4000) (hch : Chain h 0 l) (hll : l.length ≤ 5000) (hob : ACallP Try.prog 15 [words h] (.tup [objs l, iD 0])) : ACallP Try.prog 3 [words h] (bD true) := by
  have heq := equalW h h (by simp [maxLen]; omega)
  rw [(listEq_iff eqI_iff).2 rfl] at heq
  refine acallp_fn [2] Try.func3 rfl rfl Try.ntmps3 (by simp) fun R hR => ?_
  (refine awp_reg_seq [0] fun K hK => ?_; (repeat' ((refine al_r rfl fun K' hK' => ?_); (repeat (simp only [go_sem, simprocAttr, List.length_map, bne_self_eq_false])); ((refine hK' _ _ ?_) <;> clear hK' K'))); all_goals (refine al_nil ?_; (simp only [go_sem, simprocAttr, List.length_map, bne_self_eq_false]); refine hK _ ?_; clear hK K))
  (refine awp_reg_seq [0, 3, 4] fun K hK => ?_; (repeat' ((refine al_r rfl fun K' hK' => ?_); (repeat (simp only [go_sem, simprocAttr, List.length_map, bne_self_eq_false])); (first | ((refine hK' _ _ ?_) <;> clear hK' K') | ((show AC _ _ (D.fn 15 _) _ _); refine acall_p (f := 15) (e := rfl) (hr := rfl) (k := hK' _ _ ?_) (hc := Try.call15) (h := hob); clear hK' K')))); all_goals (refine al_nil ?_; (simp only [go_sem, simprocAttr, List.length_map, bne_self_eq_false]); refine hK _ ?_; clear hK K))
  refine awp_seq_k fun K hK => ?_
  (refine awp_reg_tov [0, 3, 21] [(3, objs l), (0, words h), (21, bD false)] (h := ?_) (k := ?_); · ((repeat' ((first | refine al_r rfl fun K' hK' => ?_ | refine al_t rfl rfl fun K' hK' => ?_); (repeat (simp only [go_sem, simprocAttr, List.length_map, bne_self_eq_false])); (first | ((refine hK' _ _ ?_) <;> clear hK' K') | ((show AC _ _ (D.fn 16 _) _ _); refine acall_p (f := 16) (e := rfl) (hr := rfl) (k := hK' _ _ ?_) (hc := Try.call16) (h := heaps); clear hK' K')))); all_goals (refine al_nil ?_; simp only [go_sem, simprocAttr, List.length_map, bne_self_eq_false, *, Bool.and_true, Bool.and_false, Bool.true_and, Bool.false_and, Bool.or_true, Bool.true_or, Bool.or_false, Bool.false_or, Bool.not_true, Bool.not_false, Bool.false_eq_true]))); intro K hK; (simp only [go_sem, simprocAttr, List.length_map, bne_self_eq_false]); refine hK _ ?_; clear hK K
  refine awp_if (_) rfl (fun hc => ?_) (fun hc => ?_)
  · cases hc
  · refine awp_skip ?_
    refine hK _ ?_; clear hK K
    (refine awp_reg_seq [0, 3, 5] fun K hK => ?_; (repeat' ((refine al_r rfl fun K' hK' => ?_); (repeat (simp only [go_sem, simprocAttr, List.length_map, bne_self_eq_false])); ((refine hK' _ _ ?_) <;> clear hK' K'))); all_goals (refine al_nil ?_; (simp only [go_sem, simprocAttr, List.length_map, bne_self_eq_false]); refine hK _ ?_; clear hK K))
    (refine awp_frz [0, 3, 5] [] (by decide) (by (simp; done)) ?_; simp only [go_sem, simprocAttr, List.length_map, bne_self_eq_false])
    refine awp_seq_k fun K hK => ?_
    (refine awp_reg_seq [0, 5, 28, 29, 30] fun K hK => ?_; (repeat' ((refine al_r rfl fun K' hK' => ?_); (repeat (simp only [go_sem, simprocAttr, List.length_map, bne_self_eq_false])); ((first | refine hK' _ _ ?_ | refine ⟨?_, hK' _ _ ?_⟩) <;> clear hK' K' <;> (first | (show alist _ _ _ _ _ _; skip) | (intro s hs; cases hs; done))))); all_goals (refine al_nil ?_; (simp only [go_sem, simprocAttr, List.length_map, bne_self_eq_false]); refine hK _ ?_; clear hK K))
    refine awp_block ?_
    -- loop 0 head [0, 5, 28, 29, 30]
    refine awp_loop (fun m s => ∃ (i a : Nat), i ≤ l.length ∧ m = l.length - i ∧ Chain h a (l.drop i) ∧ a ≤ h.length ∧ s = ⟨ofL [(0, words h), (5, words (h.take a)), (28, objs l), (29, iD l.length), (30, iD i)], [], 0⟩) ⟨_, 0, 0, Nat.zero_le _, rfl, hch, Nat.zero_le _, rfl⟩ ?_
    rintro m s ⟨i, a, hi, rfl, hc1, hal, rfl⟩
    (refine awp_reg_seq [0, 5, 28, 29, 30, 31] fun K hK => ?_; (repeat' ((refine al_r rfl fun K' hK' => ?_); (repeat (simp only [go_sem, simprocAttr, List.length_map, bne_self_eq_false])); ((refine hK' _ _ ?_) <;> clear hK' K'))); all_goals (refine al_nil ?_; (simp only [go_sem, simprocAttr, List.length_map, bne_self_eq_false]); refine hK _ ?_; clear hK K))
    refine awp_seq_k fun K hK => ?_
    refine awp_if (decide ((i : Int) < (l.length : Int))) rfl (fun hc => ?_) (fun hc => ?_)
    · refine awp_skip ?_
      refine hK _ ?_; clear hK K
      refine awp_seq_k fun K hK => ?_
      refine awp_block ?_
      have hi2 : i < l.length := by simpa using hc
      obtain ⟨o, hget⟩ := get_of_lt hi2
      have hnn : (0 : Int) ≤ (i : Int) := Int.natCast_nonneg i
      have hnx : IntKind.i64.wrap ((i : Int) + 1) = ((i + 1 : Nat) : Int) := by rw [Go.Ab.wrap_small (by omega) (by omega)]; rfl
      rw [drop_of hget] at hc1
      obtain ⟨hoa, hri, h1, h2, hc2⟩ := hc1
      obtain ⟨oa, k, num, t, ps⟩ := o
      simp only at hoa
      subst hoa
      have hput := put (h.take a) ⟨a, k, num, t, ps⟩ (by rw [List.length_take]; simp [maxLen]; omega)
      rw [put_chain h4 hri h1 h2] at hput
      clear h1 hri
      generalize (encW ⟨a, k, num, t, ps⟩).length = L at *
      have htl : (h.take a).length = a := by rw [List.length_take]; omega
      have hmn : min a h.length = a := by omega

      (refine awp_reg_seq [0, 5, 7, 28, 29, 30] fun K hK => ?_; (repeat' ((first | refine al_r rfl fun K' hK' => ?_ | refine al_d rfl fun K' hK' => ?_); (repeat (first | (simp only [go_sem, simprocAttr, hget, hnn, hi2, hnx, htl, hmn, Int.toNat_natCast, List.getElem?_map, Option.map_some, List.length_map, List.length_take, Obj.row]) | refine AS.mk ?_)); ((first | refine hK' _ _ ?_ | refine ⟨?_, hK' _ _ ?_⟩) <;> clear hK' K' <;> (first | (show alist _ _ _ _ _ _; skip) | (simp; done))))); all_goals (refine al_nil ?_; (simp only [go_sem, simprocAttr, hget, hnn, hi2, hnx, htl, hmn, Int.toNat_natCast, List.getElem?_map, Option.map_some, List.length_map, List.length_take, Obj.row]); refine hK _ ?_; clear hK K))
      (refine awp_frz [0, 5, 7, 28, 29, 30] [] (by decide) (by (simp; done)) ?_; simp only [go_sem, simprocAttr, hget, hnn, hi2, hnx, htl, hmn, Int.toNat_natCast, List.getElem?_map, Option.map_some, List.length_map, List.length_take, Obj.row])
      refine awp_seq_k fun K hK => ?_

      (refine awp_reg_tov [0, 5, 7, 28, 29, 30, 38] [(38, bD false)] (h := ?_) (k := ?_); · ((repeat' ((refine al_r rfl fun K' hK' => ?_); (repeat (simp only [go_sem, simprocAttr, htl, hmn, List.length_map, List.length_take, bne_self_eq_false])); ((first | refine hK' _ _ ?_ | refine ⟨?_, hK' _ _ ?_⟩) <;> clear hK' K' <;> (first | (show alist _ _ _ _ _ _; skip) | (intro s hs; cases hs; done))))); all_goals (refine al_nil ?_; simp only [go_sem, simprocAttr, htl, hmn, List.length_map, List.length_take, bne_self_eq_false, *, Bool.and_true, Bool.and_false, Bool.true_and, Bool.false_and, Bool.or_true, Bool.true_or, Bool.or_false, Bool.false_or, Bool.not_true, Bool.not_false, Bool.false_eq_true]))); intro K hK; (simp only [go_sem, simprocAttr, htl, hmn, List.length_map, List.length_take, bne_self_eq_false]); refine hK _ ?_; clear hK K
      refine awp_if (_) rfl (fun hc => ?_) (fun hc => ?_)
      · cases hc
      · refine awp_skip ?_
        refine hK _ ?_; clear hK K

        (refine awp_reg_seq [0, 7, 8, 9, 10, 28, 29, 30] fun K hK => ?_; (repeat' ((refine al_r rfl fun K' hK' => ?_); (repeat (simp only [go_sem, simprocAttr, htl, hnx, List.length_map, List.length_take])); (first | ((refine hK' _ _ ?_) <;> clear hK' K') | ((show AC _ _ (D.fn 17 _) _ _); refine acall_p (f := 17) (e := rfl) (hr := rfl) (k := hK' _ _ ?_) (hc := Try.call17) (h := hput); clear hK' K')))); all_goals (refine al_nil ?_; (simp only [go_sem, simprocAttr, htl, hnx, List.length_map, List.length_take]); refine hK _ ?_; clear hK K))
        refine awp_seq_k fun K hK => ?_

        (refine awp_reg_tov [0, 8, 28, 29, 30, 53] [(53, bD false)] (h := ?_) (k := ?_); · ((repeat' ((first | refine al_r rfl fun K' hK' => ?_ | refine al_t rfl rfl fun K' hK' => ?_); (repeat (simp only [go_sem, simprocAttr, hnx, List.length_map, bne_self_eq_false])); ((refine hK' _ _ ?_) <;> clear hK' K'))); all_goals (refine al_nil ?_; simp only [go_sem, simprocAttr, hnx, List.length_map, bne_self_eq_false, *, Bool.and_true, Bool.and_false, Bool.true_and, Bool.false_and, Bool.or_true, Bool.true_or, Bool.or_false, Bool.false_or, Bool.not_true, Bool.not_false, Bool.false_eq_true]))); intro K hK; (simp only [go_sem, simprocAttr, hnx, List.length_map, bne_self_eq_false]); refine hK _ ?_; clear hK K
        refine awp_if (_) rfl (fun hc => ?_) (fun hc => ?_)
        · cases hc
        · refine awp_skip ?_
          refine hK _ ?_; clear hK K
          (refine awp_reg_end [0, 5, 28, 29, 30] fun K hK => ?_; (repeat' ((refine al_r rfl fun K' hK' => ?_); (repeat (simp only [go_sem, simprocAttr, hnx, List.length_map, bne_self_eq_false])); ((refine hK' _ _ ?_) <;> clear hK' K'))); all_goals (refine al_nil ?_; (simp only [go_sem, simprocAttr, hnx, List.length_map, bne_self_eq_false]); refine hK _ ?_; clear hK K))
          refine hK _ ?_; clear hK K
          (refine awp_reg_end [0, 5, 28, 29, 30] fun K hK => ?_; (repeat' ((refine al_r rfl fun K' hK' => ?_); (repeat (simp only [go_sem, simprocAttr, hnx, List.length_map, bne_self_eq_false])); ((refine hK' _ _ ?_) <;> clear hK' K'))); all_goals (refine al_nil ?_; (simp only [go_sem, simprocAttr, hnx, List.length_map, bne_self_eq_false]); refine hK _ ?_; clear hK K))
          refine ⟨_, ?_, i + 1, _, hi2, rfl, hc2, h2, rfl⟩
          omega

    · have hie : i = l.length := by simp at hc; omega
      subst hie
      rw [List.drop_length] at hc1
      have hah : a = h.length := hc1
      subst hah
      rw [List.take_length]
      refine awp_exit ?_
      clear hK
      refine hK _ ?_; clear hK K
      (refine awp_reg_seq [2] fun K hK => ?_; (repeat' ((refine al_r rfl fun K' hK' => ?_); (repeat (simp only [go_sem, simprocAttr, List.length_map])); (first | ((refine hK' _ _ ?_) <;> clear hK' K') | ((show AC _ _ (D.fn 18 _) _ _); refine acall_p (f := 18) (e := rfl) (hr := rfl) (k := hK' _ _ ?_) (hc := Try.call18) (h := heq); clear hK' K')))); all_goals (refine al_nil ?_; (simp only [go_sem, simprocAttr, List.length_map]); refine hK _ ?_; clear hK K))
      all_goals (refine awp_ret ?_; (refine hR _ _ (.inl rfl) rfl ?_); (simp only [go_sem, simprocAttr, List.length_map, *, Bool.and_true, Bool.and_false, Bool.true_and, Bool.false_and, Bool.or_true, Bool.true_or, Bool.or_false, Bool.false_or, Bool.not_true, Bool.not_false, Bool.false_eq_true]; done))

theorem chain_len {h : List Int} : ∀ {l : List Obj} {a : Nat}, Chain h a l → a + l.length ≤ h.length
  | [], a, hc => by have : a = h.length := hc; simp; omega
  | o :: l, a, hc => by
    obtain ⟨_, _, _, h2, h3⟩ := hc
    have := chain_len h3
    have hp : 1 ≤ (encW o).length := by simp [encW]
    simp only [List.length_cons]; omega

theorem objF_err {h : List Int} : ∀ (f a : Nat) (acc : List Obj), (objF h f a acc).2 ≠ 0 → (objF h f a acc).1 = []
  | 0, a, acc, he => absurd rfl he
  | f + 1, a, acc, he => by
    unfold objF at he ⊢
    split
    · rename_i h1
      rw [if_pos h1] at he
      split
      · rfl
      · rename_i h2
        rw [if_neg h2] at he
        exact objF_err f _ _ he
    · rename_i h1
      rw [if_neg h1] at he
      exact absurd rfl he

theorem all_ (h : List Int) (hlen : h.length ≤ maxLen) (hok : ∀ w, w ∈ h → WordOk w) : ACallP Try.prog 3 [words h] (bD true) := by
  have hob := objects h hlen hok
  have hv : objsS h = if decide ((h.length : Int) > 4000) then ([], 2) else objF h (h.length + 1) 0 [] := rfl
  by_cases h4 : h.length ≤ 4000
  · rw [if_neg (by simp; omega)] at hv
    rw [hv] at hob
    by_cases he : (objF h (h.length + 1) 0 []).2 = 0
    · obtain ⟨l', hl, hc⟩ := objF_chain hlen hok (h.length + 1) 0 [] (objF h (h.length + 1) 0 []).1 (by omega) (Nat.zero_le _) (by rw [← he])
      rw [List.nil_append] at hl
      rw [← hl] at hc
      rw [he] at hob
      have := chain_len hc
      exact allGood h _ h4 hc (by omega) hob
    · rw [objF_err _ _ _ he] at hob
      exact allBad h _ (by simpa using he) hob
  · rw [if_pos (by simp; omega)] at hv
    rw [hv] at hob
    exact allBad h 2 (by decide) hob

theorem closed : closedT Try.prog [23, 34] = true := by kernel_rfl
theorem word_rows {f : Nat} : ∀ (rows : List (List PV)), (∀ r, r ∈ rows → r.length = Try.prog.cellsOf 34 ∧ shapeOk Try.prog f 34 r) → ∃ ls : List Int, rows = ls.map wrow ∧ ∀ w, w ∈ ls → WordOk w
  | [], _ => ⟨[], rfl, fun w hw => by cases hw⟩
  | r :: rows, h => by
    obtain ⟨n, rfl, hn⟩ := shape_int Try.underlying34 (h r List.mem_cons_self).2
    obtain ⟨ls, rfl, hls⟩ := word_rows rows fun r hr => h r (List.mem_cons_of_mem _ hr)
    refine ⟨n :: ls, rfl, fun w hw => ?_⟩
    rcases List.mem_cons.1 hw with rfl | hw
    · simp [Lit.wf, IntKind.min, IntKind.max, IntKind.signed, IntKind.bits] at hn
      exact ⟨by omega, by omega⟩
    · exact hls w hw
theorem sh23 {f : Nat} {xs : List PV} (h : shapeOk Try.prog f 23 xs) : ∃ ls : List Int, xs = [.sl (ls.map wrow)] ∧ ls.length ≤ maxLen ∧ ∀ w, w ∈ ls → WordOk w := by
  obtain ⟨n, rows, _, e0, hmax, _, hr⟩ := shape_slice Try.underlying23 h
  obtain ⟨ls, rfl, hls⟩ := word_rows rows hr
  exact ⟨ls, e0, by simpa using hmax, hls⟩
end Go.Proofs.Ytagphggcdmjlpaa.P

/- Objects are read as they were written: plain facts. -/
namespace Go.Proofs.Ytagphggcdmjlpaa.P
open Go.Ab

theorem u64_small {n : Nat} (h : n < 18446744073709551616) : IntKind.u64.wrap (n : Int) = (n : Int) := by
  rw [IntKind.wrap_u64]; omega

theorem or_add {a b i : Nat} (h : b < 2 ^ i) : b ||| a * 2 ^ i = b + a * 2 ^ i := by
  have := Nat.shiftLeft_add_eq_or_of_lt h a
  rw [Nat.shiftLeft_eq] at this
  rw [Nat.or_comm, ← this]; omega

theorem right_kind {o : Obj} (h : rightS o = true) : ∃ k : Nat, o.kind = k ∧ 1 ≤ k ∧ k ≤ 5 := by
  unfold rightS at h
  simp only [Bool.and_eq_true, Bool.not_eq_true', Bool.or_eq_false_iff, decide_eq_false_iff_not] at h
  exact ⟨o.kind.toNat, by omega, by omega, by omega⟩

theorem head_val {o : Obj} (h : rightS o = true) {k : Nat} (hk : o.kind = k) (hk5 : k ≤ 5) : headS o = ((k + o.text.size * 256 + o.parts.length * 1048576 : Nat) : Int) := by
  obtain ⟨hs, hp⟩ := right_small h
  have e8 : (2 : Int) ^ min 8 64 = ((256 : Nat) : Int) := by decide
  have e20 : (2 : Int) ^ min 20 64 = ((1048576 : Nat) : Int) := by decide
  unfold headS
  rw [hk, e8, e20, u64_small (by omega), u64_small (by omega), u64_small (by omega), ← Int.natCast_mul, ← Int.natCast_mul, u64_small (by omega), u64_small (by omega)]
  rw [bits_or_u64_nat _ _ (by omega) (by omega)]
  have h1 := or_add (a := o.text.size) (b := k) (i := 8) (by omega)
  rw [show (2 : Nat) ^ 8 = 256 from rfl] at h1
  rw [h1, bits_or_u64_nat _ _ (by omega) (by omega)]
  have h2 := or_add (a := o.parts.length) (b := k + o.text.size * 256) (i := 20) (by omega)
  rw [show (2 : Nat) ^ 20 = 1048576 from rfl] at h2
  rw [h2]

theorem fdiv_nat (n : Nat) (k : Nat) : ((n : Nat) : Int).fdiv ((k : Nat) : Int) = ((n / k : Nat) : Int) := by
  rw [Int.fdiv_eq_ediv_of_nonneg _ (Int.natCast_nonneg k)]; rfl

theorem head_dec {o : Obj} (h : rightS o = true) : kN (headS o) = o.kind ∧ tN (headS o) = o.text.size ∧ pN (headS o) = o.parts.length ∧ (headS o).fdiv (2 ^ min 32 64) = 0 := by
  obtain ⟨k, hk, _, hk5⟩ := right_kind h
  obtain ⟨hs, hp⟩ := right_small h
  have e8 : (2 : Int) ^ min 8 64 = ((256 : Nat) : Int) := by decide
  have e20 : (2 : Int) ^ min 20 64 = ((1048576 : Nat) : Int) := by decide
  have e32 : (2 : Int) ^ min 32 64 = ((4294967296 : Nat) : Int) := by decide
  rw [head_val h hk hk5]
  have a255 : ∀ n : Nat, n &&& 255 = n % 256 := fun n => Nat.and_two_pow_sub_one_eq_mod n 8
  have a4095 : ∀ n : Nat, n &&& 4095 = n % 4096 := fun n => Nat.and_two_pow_sub_one_eq_mod n 12
  unfold kN tN pN
  rw [e8, e20, e32, fdiv_nat, fdiv_nat, fdiv_nat]
  have b1 := bits_and_u64_nat (k + o.text.size * 256 + o.parts.length * 1048576) 255 (by omega) (by omega)
  have b2 := bits_and_u64_nat ((k + o.text.size * 256 + o.parts.length * 1048576) / 256) 4095 (by omega) (by omega)
  have b3 := bits_and_u64_nat ((k + o.text.size * 256 + o.parts.length * 1048576) / 1048576) 4095 (by omega) (by omega)
  refine ⟨?_, ?_, ?_, ?_⟩
  · show IntKind.i64.wrap (bits .and .u64 _ ((255 : Nat) : Int)) = _
    rw [b1, a255, Go.Ab.wrap_small (by omega) (by omega), hk]; omega
  · show IntKind.i64.wrap (bits .and .u64 _ ((4095 : Nat) : Int)) = _
    rw [b2, a4095, Go.Ab.wrap_small (by omega) (by omega)]; omega
  · show IntKind.i64.wrap (bits .and .u64 _ ((4095 : Nat) : Int)) = _
    rw [b3, a4095, Go.Ab.wrap_small (by omega) (by omega)]; omega
  · omega

/-- The value of a byte of a text; none is nought. -/
def byteV (s : ByteArray) (i : Nat) : Nat := match s[i]? with | some b => b.toNat | none => 0
theorem byteV_lt (s : ByteArray) (i : Nat) : byteV s i < 256 := by
  unfold byteV
  split
  · exact UInt8.toNat_lt _
  · decide

def sumF (s : ByteArray) (i : Nat) : Nat → Nat → Nat
  | 0, _ => 0
  | m + 1, k => byteV s (i + k) * 2 ^ (8 * k) + sumF s i m (k + 1)

theorem orStep_val (s : ByteArray) (i : Nat) {k w : Nat} (hk : k < 8) (hw : w < 2 ^ (8 * k)) : orStep s i k (w : Int) = ((w + byteV s (i + k) * 2 ^ (8 * k) : Nat) : Int) ∧ w + byteV s (i + k) * 2 ^ (8 * k) < 2 ^ (8 * (k + 1)) := by
  have hb := byteV_lt s (i + k)
  have hpow : 2 ^ (8 * (k + 1)) = 256 * 2 ^ (8 * k) := by rw [Nat.mul_add, Nat.mul_one, Nat.pow_add, Nat.mul_comm]
  have hle : (2 : Nat) ^ (8 * (k + 1)) ≤ 2 ^ 64 := Nat.pow_le_pow_right (by decide) (by omega)
  have hprod : byteV s (i + k) * 2 ^ (8 * k) ≤ 255 * 2 ^ (8 * k) := Nat.mul_le_mul_right _ (by omega)
  have hlt : w + byteV s (i + k) * 2 ^ (8 * k) < 2 ^ (8 * (k + 1)) := by rw [hpow]; omega
  refine ⟨?_, hlt⟩
  have h64 : (2 : Nat) ^ 64 = 18446744073709551616 := rfl
  unfold orStep
  unfold byteV at hlt ⊢
  cases hsb : s[i + k]? with
  | none => simp
  | some b =>
    rw [hsb] at hlt
    simp only at hlt ⊢
    have hbl := UInt8.toNat_lt b
    have hmin : min (8 * k) 64 = 8 * k := by omega
    rw [hmin, u64_small (n := b.toNat) (by omega)]
    have hcast : ((b.toNat : Nat) : Int) * 2 ^ (8 * k) = ((b.toNat * 2 ^ (8 * k) : Nat) : Int) := by
      rw [Int.natCast_mul, Int.natCast_pow]; rfl
    rw [hcast, u64_small (by omega), bits_or_u64_nat _ _ (by omega) (by omega), or_add hw]

theorem orF_val (s : ByteArray) (i : Nat) : ∀ (m k w : Nat), k + m ≤ 8 → w < 2 ^ (8 * k) → orF s i m k (w : Int) = ((w + sumF s i m k : Nat) : Int)
  | 0, _, _, _, _ => rfl
  | m + 1, k, w, hk, hw => by
    obtain ⟨h1, h2⟩ := orStep_val s i (k := k) (by omega) hw
    show orF s i m (k + 1) (orStep s i k w) = _
    rw [h1, orF_val s i m (k + 1) _ (by omega) h2]
    show ((_ + _ : Nat) : Int) = ((w + (byteV s (i + k) * 2 ^ (8 * k) + sumF s i m (k + 1)) : Nat) : Int)
    rw [Nat.add_assoc]

theorem word_val (s : ByteArray) (i : Nat) : wordAt s i = ((sumF s i 8 0 : Nat) : Int) := by
  have := orF_val s i 8 0 0 (by omega) (by decide)
  rw [Nat.zero_add] at this
  exact this

theorem byte_dec (s : ByteArray) (i : Nat) {j : Nat} (hj : j < 8) : IntKind.u8.wrap ((wordAt s i).fdiv (2 ^ min (8 * j) 64)) = (byteV s (i + j) : Int) := by
  have hmin : min (8 * j) 64 = 8 * j := by omega
  have hp : (2 : Int) ^ (8 * j) = ((2 ^ (8 * j) : Nat) : Int) := by rw [Int.natCast_pow]; rfl
  rw [word_val, hmin, hp, fdiv_nat]
  have b0 := byteV_lt s (i + 0)
  have b1 := byteV_lt s (i + 1)
  have b2 := byteV_lt s (i + 2)
  have b3 := byteV_lt s (i + 3)
  have b4 := byteV_lt s (i + 4)
  have b5 := byteV_lt s (i + 5)
  have b6 := byteV_lt s (i + 6)
  have b7 := byteV_lt s (i + 7)
  have hs : sumF s i 8 0 = byteV s (i + 0) + byteV s (i + 1) * 256 + byteV s (i + 2) * 65536 + byteV s (i + 3) * 16777216 + byteV s (i + 4) * 4294967296 + byteV s (i + 5) * 1099511627776 + byteV s (i + 6) * 281474976710656 + byteV s (i + 7) * 72057594037927936 := by
    show byteV s (i + 0) * 2 ^ 0 + (byteV s (i + 1) * 2 ^ 8 + (byteV s (i + 2) * 2 ^ 16 + (byteV s (i + 3) * 2 ^ 24 + (byteV s (i + 4) * 2 ^ 32 + (byteV s (i + 5) * 2 ^ 40 + (byteV s (i + 6) * 2 ^ 48 + (byteV s (i + 7) * 2 ^ 56 + 0))))))) = _
    omega
  rw [hs]
  have hw : ∀ n : Nat, IntKind.u8.wrap (n : Int) = ((n % 256 : Nat) : Int) := fun n => by
    simp [IntKind.wrap, IntKind.bits, IntKind.signed]
  rw [hw]
  congr 1
  match j, hj with
  | 0, _ => simp only [Nat.mul_zero, Nat.pow_zero, Nat.div_one]; omega
  | 1, _ => rw [show (2 : Nat) ^ (8 * 1) = 256 from rfl]; omega
  | 2, _ => rw [show (2 : Nat) ^ (8 * 2) = 65536 from rfl]; omega
  | 3, _ => rw [show (2 : Nat) ^ (8 * 3) = 16777216 from rfl]; omega
  | 4, _ => rw [show (2 : Nat) ^ (8 * 4) = 4294967296 from rfl]; omega
  | 5, _ => rw [show (2 : Nat) ^ (8 * 5) = 1099511627776 from rfl]; omega
  | 6, _ => rw [show (2 : Nat) ^ (8 * 6) = 281474976710656 from rfl]; omega
  | 7, _ => rw [show (2 : Nat) ^ (8 * 7) = 72057594037927936 from rfl]; omega

theorem textF_get (s : ByteArray) : ∀ (m i q : Nat), q < m → (textF s m i)[q]? = some (wordAt s (i + 8 * q))
  | m + 1, i, 0, _ => rfl
  | m + 1, i, q + 1, h => by
    show (wordAt s i :: textF s m (i + 8))[q + 1]? = _
    rw [List.getElem?_cons_succ, textF_get s m (i + 8) q (by omega)]
    congr 2; omega

theorem bytes_dec (pre post : List Int) (s : ByteArray) : bytesN (pre ++ (textW s ++ post)) pre.length s.size = (List.range s.size).map fun i => (byteV s i : Int) := by
  unfold bytesN
  refine List.map_congr_left fun i hi => ?_
  have hi := List.mem_range.1 hi
  unfold byteN
  have hq : i / 8 < (s.size + 7) / 8 := by omega
  have h1 : (pre ++ (textW s ++ post)).getD (pre.length + i / 8) 0 = wordAt s (8 * (i / 8)) := by
    unfold List.getD
    rw [List.getElem?_append_right (by omega), Nat.add_sub_cancel_left, List.getElem?_append_left (by unfold textW; rw [textF_len]; exact hq)]
    unfold textW
    rw [textF_get s _ 0 _ hq, Nat.zero_add]; rfl
  rw [h1, byte_dec s _ (Nat.mod_lt _ (by decide))]
  congr 2; omega

theorem pushB_bytes (s : ByteArray) : pushB ((List.range s.size).map fun i => (byteV s i : Int)) = s := by
  unfold pushB
  rw [foldl_push_bytes]
  obtain ⟨data⟩ := s
  have hd : ((List.range (ByteArray.mk data).size).map fun i => (byteV ⟨data⟩ i : Int)).map (fun n => UInt8.ofNat n.toNat) = data.toList := by
    apply List.ext_getElem?
    intro i
    rw [List.getElem?_map, List.getElem?_map]
    by_cases h : i < data.size
    · rw [List.getElem?_range (show i < (ByteArray.mk data).size from h), Array.getElem?_toList, Array.getElem?_eq_getElem h]
      have : (ByteArray.mk data)[i]? = some data[i] := by
        rw [getElem?_pos (ByteArray.mk data) i h]; rfl
      simp [byteV, this]
    · rw [List.getElem?_eq_none (show (List.range (ByteArray.mk data).size).length ≤ i by rw [List.length_range]; exact Nat.le_of_not_lt h), Array.getElem?_toList, Array.getElem?_eq_none (by omega)]
      rfl
  rw [hd]
  show (ByteArray.mk (#[] ++ data.toList.toArray)) = _
  simp
end Go.Proofs.Ytagphggcdmjlpaa.P

/- A heap of objects: what At and Objects answer. -/
namespace Go.Proofs.Ytagphggcdmjlpaa.P
open Go.Ab

abbrev NumOk (n : Int) : Prop := -9223372036854775808 ≤ n ∧ n ≤ 9223372036854775807

/-- An object at another place. -/
def Obj.to (o : Obj) (a : Nat) : Obj := ⟨a, o.kind, o.num, o.text, o.parts⟩

theorem put_nil {o : Obj} (h : rightS o = true) : putS [] o = (encW o, 0, 0) := by
  obtain ⟨h1, h2⟩ := right_small h
  have hr : roomN o.kind o.text.size o.parts.length ≤ 500 := by
    unfold roomN
    split <;> omega
  unfold putS
  rw [h, if_neg (by simp), if_neg (by simp; omega)]
  rfl

theorem num_back {n : Int} (h : NumOk n) : IntKind.i64.wrap (IntKind.u64.wrap n) = n := by
  rw [IntKind.wrap_u64]
  simp only [IntKind.wrap, IntKind.bits, IntKind.signed]
  simp
  obtain ⟨h1, h2⟩ := h
  omega

theorem obj_dec (pre1 post : List Int) (o : Obj) (n : Nat) (k num : Int) : objO (pre1 ++ (textW o.text ++ (o.parts ++ post))) n k num o.text.size o.parts.length pre1.length = ⟨n, k, num, o.text, o.parts⟩ := by
  unfold objO
  rw [bytes_dec, pushB_bytes]
  have : List.drop (pre1.length + (o.text.size + 7) / 8) (pre1 ++ (textW o.text ++ (o.parts ++ post))) = o.parts ++ post := by
    rw [← List.drop_drop, List.drop_left]
    have hl : (o.text.size + 7) / 8 = (textW o.text).length := by unfold textW; rw [textF_len]
    rw [hl, List.drop_left]
  rw [this, List.take_left]

theorem at_enc (pre post : List Int) (o : Obj) (hr : rightS o = true) (hn : NumOk o.num) : atS (pre ++ (encW o ++ post)) pre.length = (o.to pre.length, 0) := by
  obtain ⟨d1, d2, d3, d4⟩ := head_dec hr
  have hel := enc_len o
  have hput := put_nil (o := o.to pre.length) hr
  have henc : encW (o.to pre.length) = encW o := rfl
  rw [henc] at hput
  have hlen : (pre ++ (encW o ++ post)).length = pre.length + (encW o).length + post.length := by simp; omega
  have hpos : 1 ≤ (encW o).length := by simp [encW]
  have hget : (pre ++ (encW o ++ post))[pre.length]? = some (headS o) := by
    rw [List.getElem?_append_right (Nat.le_refl _), Nat.sub_self]; rfl
  have hcut : ∀ m, m = (encW o).length → ((pre ++ (encW o ++ post)).drop pre.length).take m = encW o := fun m hm => by
    rw [List.drop_left, hm, List.take_left]
  have hat : ∀ m, m = (encW o).length → atO (pre ++ (encW o ++ post)) pre.length (o.to pre.length) m = (o.to pre.length, 0) := fun m hm => by
    unfold atO
    rw [hcut m hm, hput, (listEq_iff eqI_iff).2 rfl]
    rfl
  unfold atS
  rw [if_neg (by simp; omega), Int.toNat_natCast, hget]
  simp only
  rw [d1, d2, d3, d4, Int.toNat_natCast, Int.toNat_natCast, ← hel, if_neg (by simp; omega)]
  have hroom := hel
  unfold roomN at hroom
  unfold atR
  by_cases hk : numK o.kind = true
  · rw [if_pos hk]
    rw [if_pos hk] at hroom
    have hnw : numW o = [IntKind.u64.wrap o.num] := by unfold numW; rw [if_pos hk]
    have hsh : pre ++ (encW o ++ post) = (pre ++ [headS o, IntKind.u64.wrap o.num]) ++ (textW o.text ++ (o.parts ++ post)) := by
      unfold encW; rw [hnw]; simp
    have hg1 : (pre ++ (encW o ++ post)).getD (pre.length + 1) 0 = IntKind.u64.wrap o.num := by
      unfold List.getD encW
      rw [hnw, List.getElem?_append_right (by omega), Nat.add_sub_cancel_left]; rfl
    have hl2 : pre.length + 2 = (pre ++ [headS o, IntKind.u64.wrap o.num]).length := by simp
    have hob : objO (pre ++ (encW o ++ post)) pre.length o.kind (IntKind.i64.wrap ((pre ++ (encW o ++ post)).getD (pre.length + 1) 0)) o.text.size o.parts.length (pre.length + 2) = o.to pre.length := by
      rw [hg1, num_back hn, hsh, hl2, obj_dec]; rfl
    rw [hob]
    exact hat _ (by omega)
  · rw [if_neg hk]
    rw [if_neg hk] at hroom
    have hnw : numW o = [] := by unfold numW; rw [if_neg hk]
    have hn0 : o.num = 0 := by
      unfold rightS at hr
      unfold numK at hk
      simp only [Bool.or_eq_true, beq_iff_eq, not_or] at hk
      simp only [Bool.and_eq_true, Bool.not_eq_true', Bool.and_eq_false_imp] at hr
      have := hr.2.2.2.1 (by simp [hk.1, hk.2])
      simpa using this
    have hsh : pre ++ (encW o ++ post) = (pre ++ [headS o]) ++ (textW o.text ++ (o.parts ++ post)) := by
      unfold encW; rw [hnw]; simp
    have hl2 : pre.length + 1 = (pre ++ [headS o]).length := by simp
    have hob : objO (pre ++ (encW o ++ post)) pre.length o.kind 0 o.text.size o.parts.length (pre.length + 1) = o.to pre.length := by
      rw [hsh, hl2, obj_dec, ← hn0]; rfl
    rw [hob]
    exact hat _ (by omega)

/-- The words of objects, one behind the other; and the objects at their places. -/
def flat : List Obj → List Int
  | [] => []
  | o :: l => encW o ++ flat l
def place : Nat → List Obj → List Obj
  | _, [] => []
  | a, o :: l => o.to a :: place (a + (encW o).length) l

theorem place_len : ∀ (a : Nat) (l : List Obj), (place a l).length = l.length
  | _, [] => rfl
  | a, o :: l => by rw [place, List.length_cons, place_len, List.length_cons]

theorem flat_append (l m : List Obj) : flat (l ++ m) = flat l ++ flat m := by
  induction l with
  | nil => rfl
  | cons o l ih => show encW o ++ flat (l ++ m) = _; rw [ih, ← List.append_assoc]; rfl

theorem objF_flat : ∀ (l : List Obj) (pre : List Int) (f : Nat) (acc : List Obj), (∀ o, o ∈ l → rightS o = true ∧ NumOk o.num) → (flat l).length < f →
    objF (pre ++ flat l) f pre.length acc = (acc ++ place pre.length l, 0)
  | [], pre, f + 1, acc, _, _ => by
    unfold objF
    rw [if_neg (by simp [flat])]
    simp [place]
  | o :: l, pre, f + 1, acc, h, hf => by
    obtain ⟨hr, hn⟩ := h o List.mem_cons_self
    have hpos : 1 ≤ (encW o).length := by simp [encW]
    have hat := at_enc pre (flat l) o hr hn
    have hfl : (flat (o :: l)).length = (encW o).length + (flat l).length := by show (encW o ++ flat l).length = _; rw [List.length_append]
    unfold objF
    rw [if_pos (by rw [List.length_append]; omega)]
    show (if (atS (pre ++ (encW o ++ flat l)) pre.length).2 != 0 then _ else objF (pre ++ (encW o ++ flat l)) f (pre.length + roomN (atS (pre ++ (encW o ++ flat l)) pre.length).1.kind (atS (pre ++ (encW o ++ flat l)) pre.length).1.text.size (atS (pre ++ (encW o ++ flat l)) pre.length).1.parts.length) (acc ++ [(atS (pre ++ (encW o ++ flat l)) pre.length).1])) = _
    rw [hat]
    simp only [Obj.to]
    rw [if_neg (by simp), ← enc_len o]
    have ih := objF_flat l (pre ++ encW o) f (acc ++ [o.to pre.length]) (fun x hx => h x (List.mem_cons_of_mem _ hx)) (by omega)
    rw [List.length_append, List.append_assoc] at ih
    rw [show (⟨(pre.length : Int), o.kind, o.num, o.text, o.parts⟩ : Obj) = o.to pre.length from rfl, ih]
    simp [place]

theorem objs_flat {l : List Obj} (h : ∀ o, o ∈ l → rightS o = true ∧ NumOk o.num) (h4 : (flat l).length ≤ 4000) : objsS (flat l) = (place 0 l, 0) := by
  unfold objsS
  rw [if_neg (by simp; omega)]
  have := objF_flat l [] ((flat l).length + 1) [] h (by omega)
  simpa using this

theorem chain_flat {h : List Int} : ∀ {l : List Obj} {a : Nat}, Chain h a l → h.drop a = flat l
  | [], a, hc => by have : a = h.length := hc; rw [this, List.drop_length]; rfl
  | o :: l, a, hc => by
    obtain ⟨_, _, h1, h2, h3⟩ := hc
    have ih := chain_flat h3
    show _ = encW o ++ flat l
    rw [← ih, ← List.drop_drop]
    conv => rhs; rw [h1]
    rw [List.length_take, List.length_drop, Nat.min_eq_left (by omega), List.take_append_drop]
end Go.Proofs.Ytagphggcdmjlpaa.P

/- Values that are words: a contract. -/
namespace Go.Proofs.Ytagphggcdmjlpaa.P
open Go.Ab Go.Proofs.Ytagphggcdmjlpaa.T

/-- The tag of a kind. -/
def tagOf (k : Int) : Int := if k = 1 then 0 else if k = 2 then 1 else if k = 3 then 2 else if k = 6 then 3 else -1

/-- What Of answers. -/
def ofS (k n : Int) (text : ByteArray) (args : List (List PV)) : Int × Bool :=
  if decide (tagOf k < 0) || !(text.toList == (ByteArray.mk #[]).toList) || decide ((args.length : Int) > 0) then (0, false) else ((wordS (tagOf k) n).1, (wordS (tagOf k) n).2 == 0)

theorem of (k n : Int) (text : ByteArray) (args : List (List PV)) : ACallP Try.prog 56 [valD k n text args] (.tup [wD (ofS k n text args).1, bD (ofS k n text args).2]) := by
  have hw := word (tagOf k) n
  have hv : ofS k n text args = if decide (tagOf k < 0) || !(text.toList == (ByteArray.mk #[]).toList) || decide ((args.length : Int) > 0) then (0, false) else ((wordS (tagOf k) n).1, (wordS (tagOf k) n).2 == 0) := rfl
  generalize wordS (tagOf k) n = x at hw hv
  obtain ⟨x, e⟩ := x
  simp only at hw hv
  rw [hv]
  clear hv
  generalize ht : tagOf k = t at hw ⊢
  refine acallp_fn [2, 3] Try.func56 rfl rfl Try.ntmps56 (by simp) fun R hR => ?_
  (refine awp_reg_seq [1] fun K hK => ?_; (repeat' ((refine al_r rfl fun K' hK' => ?_); (repeat (simp only [go_sem, simprocAttr])); ((refine hK' _ _ ?_) <;> clear hK' K'))); all_goals (refine al_nil ?_; (simp only [go_sem, simprocAttr]); refine hK _ ?_; clear hK K))
  (refine awp_frz [1] [] (by decide) (by (simp; done)) ?_; simp only [go_sem, simprocAttr])
  (refine awp_reg_seq [1, 4] fun K hK => ?_; (repeat' ((refine al_r rfl fun K' hK' => ?_); (repeat (simp only [go_sem, simprocAttr])); ((refine hK' _ _ ?_) <;> clear hK' K'))); all_goals (refine al_nil ?_; (simp only [go_sem, simprocAttr]); refine hK _ ?_; clear hK K))
  refine awp_seq_k fun K hK => ?_
  (refine awp_reg_seq [1, 4, 8] fun K hK => ?_; (repeat' ((refine al_r rfl fun K' hK' => ?_); (repeat (simp only [go_sem, simprocAttr])); ((refine hK' _ _ ?_) <;> clear hK' K'))); all_goals (refine al_nil ?_; (simp only [go_sem, simprocAttr]); refine hK _ ?_; clear hK K))
  have key : ∀ d9 d11 d13 d15, K ⟨ofL [(1, .rd [.lit (.int .i64 k), .lit (.int .i64 n), .lit (.string text), .sl args] 0), (4, iD t), (9, d9), (11, d11), (13, d13), (15, d15)], [], 0⟩ := by
    intro d9 d11 d13 d15
    refine hK _ ?_; clear hK K
    refine awp_seq_k fun K hK => ?_
    refine awp_reg_to [1, 4, 29] (k := ?_) (h := ?_) (s1 := ⟨ofL [(1, .rd [.lit (.int .i64 k), .lit (.int .i64 n), .lit (.string text), .sl args] 0), (4, iD t), (29, bD (decide (t < 0) || !(text.toList == (ByteArray.mk #[]).toList) || decide ((args.length : Int) > 0)))], [], 0⟩); · ((repeat' (first | ((first | refine al_r rfl fun K' hK' => ?_ | refine al_t rfl rfl fun K' hK' => ?_); (repeat (simp only [go_sem, simprocAttr])); ((first | refine hK' _ _ ?_ | refine ⟨?_, hK' _ _ ?_⟩) <;> clear hK' K' <;> (first | (show alist _ _ _ _ _ _; skip) | (intro s hs; cases hs; done)))) | refine al_e rfl rfl ?_ | ((fail_if_success (refine al_t rfl rfl fun K' hK' => ?_)); refine al_s _ rfl rfl rfl (fun hb => ?_) (fun hb => ?_)))); all_goals (refine al_nil ?_; simp only [go_sem, simprocAttr, *, Bool.and_true, Bool.and_false, Bool.true_and, Bool.false_and, Bool.or_true, Bool.true_or, Bool.or_false, Bool.false_or, Bool.not_true, Bool.not_false, Bool.false_eq_true]))
    refine awp_if (_) rfl (fun hc => ?_) (fun hc => ?_)
    · (refine awp_reg_seq [2, 3] fun K hK => ?_; (repeat' ((refine al_r rfl fun K' hK' => ?_); (repeat (simp only [go_sem, simprocAttr])); ((refine hK' _ _ ?_) <;> clear hK' K'))); all_goals (refine al_nil ?_; (simp only [go_sem, simprocAttr]); refine hK _ ?_; clear hK K))
      refine awp_ret ?_; (refine hR _ _ (.inl rfl) rfl ?_)
      simp only [hc, go_sem, simprocAttr]
    · refine awp_skip ?_
      refine hK _ ?_; clear hK K
      (refine awp_reg_seq [5, 6] fun K hK => ?_; (repeat' ((refine al_r rfl fun K' hK' => ?_); (repeat (simp only [go_sem, simprocAttr])); (first | ((refine hK' _ _ ?_) <;> clear hK' K') | ((show AC _ _ (D.fn 57 _) _ _); refine acall_p (f := 57) (e := rfl) (hr := rfl) (k := hK' _ _ ?_) (hc := Try.call57) (h := hw); clear hK' K')))); all_goals (refine al_nil ?_; (simp only [go_sem, simprocAttr]); refine hK _ ?_; clear hK K))
      (refine awp_reg_seq [2, 3] fun K hK => ?_; (repeat' ((refine al_r rfl fun K' hK' => ?_); (repeat (simp only [go_sem, simprocAttr])); ((refine hK' _ _ ?_) <;> clear hK' K'))); all_goals (refine al_nil ?_; (simp only [go_sem, simprocAttr]); refine hK _ ?_; clear hK K))
      refine awp_ret ?_; (refine hR _ _ (.inl rfl) rfl ?_)
      simp only [hc, go_sem, simprocAttr, Bool.false_eq_true]
  clear hK
  refine awp_block ?_
  (refine awp_reg_seq [1, 4, 8, 9] fun K hK => ?_; (repeat' ((refine al_r rfl fun K' hK' => ?_); (repeat (simp only [go_sem, simprocAttr])); ((refine hK' _ _ ?_) <;> clear hK' K'))); all_goals (refine al_nil ?_; (simp only [go_sem, simprocAttr]); refine hK _ ?_; clear hK K))
  refine awp_if (_) rfl (fun hc => ?_) (fun hc => ?_)
  · (refine awp_reg_end [1, 4, 9, 11, 13, 15] fun K hK => ?_; (repeat' ((refine al_r rfl fun K' hK' => ?_); (repeat (simp only [go_sem, simprocAttr])); ((refine hK' _ _ ?_) <;> clear hK' K'))); all_goals (refine al_nil ?_; (simp only [go_sem, simprocAttr]); refine hK _ ?_; clear hK K))
    have h1 : k = 1 := by simpa using hc
    have : t = 0 := by rw [← ht, h1]; rfl
    subst this
    exact key _ _ _ _
  · have n1 : k ≠ 1 := by simpa using hc
    (refine awp_reg_seq [1, 4, 8, 9, 11] fun K hK => ?_; (repeat' ((refine al_r rfl fun K' hK' => ?_); (repeat (simp only [go_sem, simprocAttr])); ((refine hK' _ _ ?_) <;> clear hK' K'))); all_goals (refine al_nil ?_; (simp only [go_sem, simprocAttr]); refine hK _ ?_; clear hK K))
    refine awp_if (_) rfl (fun hc => ?_) (fun hc => ?_)
    · (refine awp_reg_end [1, 4, 9, 11, 13, 15] fun K hK => ?_; (repeat' ((refine al_r rfl fun K' hK' => ?_); (repeat (simp only [go_sem, simprocAttr])); ((refine hK' _ _ ?_) <;> clear hK' K'))); all_goals (refine al_nil ?_; (simp only [go_sem, simprocAttr]); refine hK _ ?_; clear hK K))
      have h1 : k = 2 := by simpa using hc
      have : t = 1 := by rw [← ht, h1]; rfl
      subst this
      exact key _ _ _ _
    · have n2 : k ≠ 2 := by simpa using hc
      (refine awp_reg_seq [1, 4, 8, 9, 11, 13] fun K hK => ?_; (repeat' ((refine al_r rfl fun K' hK' => ?_); (repeat (simp only [go_sem, simprocAttr])); ((refine hK' _ _ ?_) <;> clear hK' K'))); all_goals (refine al_nil ?_; (simp only [go_sem, simprocAttr]); refine hK _ ?_; clear hK K))
      refine awp_if (_) rfl (fun hc => ?_) (fun hc => ?_)
      · (refine awp_reg_end [1, 4, 9, 11, 13, 15] fun K hK => ?_; (repeat' ((refine al_r rfl fun K' hK' => ?_); (repeat (simp only [go_sem, simprocAttr])); ((refine hK' _ _ ?_) <;> clear hK' K'))); all_goals (refine al_nil ?_; (simp only [go_sem, simprocAttr]); refine hK _ ?_; clear hK K))
        have h1 : k = 3 := by simpa using hc
        have : t = 2 := by rw [← ht, h1]; rfl
        subst this
        exact key _ _ _ _
      · have n3 : k ≠ 3 := by simpa using hc
        (refine awp_reg_seq [1, 4, 9, 11, 13, 15] fun K hK => ?_; (repeat' ((refine al_r rfl fun K' hK' => ?_); (repeat (simp only [go_sem, simprocAttr])); ((refine hK' _ _ ?_) <;> clear hK' K'))); all_goals (refine al_nil ?_; (simp only [go_sem, simprocAttr]); refine hK _ ?_; clear hK K))
        refine awp_if (_) rfl (fun hc => ?_) (fun hc => ?_)
        · (refine awp_reg_end [1, 4, 9, 11, 13, 15] fun K hK => ?_; (repeat' ((refine al_r rfl fun K' hK' => ?_); (repeat (simp only [go_sem, simprocAttr])); ((refine hK' _ _ ?_) <;> clear hK' K'))); all_goals (refine al_nil ?_; (simp only [go_sem, simprocAttr]); refine hK _ ?_; clear hK K))
          have h1 : k = 6 := by simpa using hc
          have : t = 3 := by rw [← ht, h1]; rfl
          subst this
          exact key _ _ _ _
        · have n4 : k ≠ 6 := by simpa using hc
          refine awp_skip ?_
          have : t = -1 := by rw [← ht]; simp only [tagOf, if_neg n1, if_neg n2, if_neg n3, if_neg n4]
          subst this
          exact key _ _ _ _


end Go.Proofs.Ytagphggcdmjlpaa.P

/- A value is built in a heap: a contract. -/
namespace Go.Proofs.Ytagphggcdmjlpaa.P
open Go.Ab Go.Proofs.Ytagphggcdmjlpaa.T

theorem bits_ok (op : BinOp) (x y : Int) : WordOk (bits op .u64 x y) := by
  have := wf_bits op .u64 x y
  simp [Lit.wf, IntKind.min, IntKind.max, IntKind.signed, IntKind.bits] at this
  exact ⟨by omega, by omega⟩

theorem wordS_ok (t n : Int) : WordOk (wordS t n).1 := by
  unfold wordS
  split
  · show WordOk (wordOf t n)
    exact bits_ok _ _ _
  · split
    · exact ⟨by decide, by decide⟩
    · exact ⟨by decide, by decide⟩

theorem ofS_ok (k n : Int) (text : ByteArray) (args : List (List PV)) : WordOk (ofS k n text args).1 := by
  unfold ofS
  split
  · exact ⟨by decide, by decide⟩
  · exact wordS_ok _ _

/-- The parts are built one after the other. -/
def foldB (F : List Int → List PV → List Int × Int × Int) : List (List PV) → List Int → List Int → List Int × List Int × Int
  | [], g, ws => (g, ws, 0)
  | x :: l, g, ws => if (F g x).2.2 != 0 then ([], [], (F g x).2.2) else foldB F l (F g x).1 (ws ++ [(F g x).2.1])

/-- An object's kind and number. -/
def kindB (k n : Int) : Int × Int := if k == 2 then (1, n) else if k == 4 then (2, 0) else if k == 5 then (3, 0) else if k == 7 then (4, n) else if k == 8 then (5, 0) else (0, 0)

/-- What Build answers, the parts' answers given. -/
def buildN (F : List Int → List PV → List Int × Int × Int) (h : List Int) (k n : Int) (text : ByteArray) (args : List (List PV)) : List Int × Int × Int :=
  if (ofS k n text args).2 then (h, (ofS k n text args).1, 0) else
  if (kindB k n).1 == 0 then ([], 0, 1) else
  if n != 0 && (kindB k n).2 == 0 then ([], 0, 1) else
  if (foldB F args h []).2.2 != 0 then ([], 0, (foldB F args h []).2.2) else
  if (putS (foldB F args h []).1 ⟨0, (kindB k n).1, (kindB k n).2, text, (foldB F args h []).2.1⟩).2.2 != 0 then ([], 0, (putS (foldB F args h []).1 ⟨0, (kindB k n).1, (kindB k n).2, text, (foldB F args h []).2.1⟩).2.2) else
  ((putS (foldB F args h []).1 ⟨0, (kindB k n).1, (kindB k n).2, text, (foldB F args h []).2.1⟩).1, (wordS 4 (putS (foldB F args h []).1 ⟨0, (kindB k n).1, (kindB k n).2, text, (foldB F args h []).2.1⟩).2.1).1,
    (wordS 4 (putS (foldB F args h []).1 ⟨0, (kindB k n).1, (kindB k n).2, text, (foldB F args h []).2.1⟩).2.1).2)

/-- What the objects of a heap are made of. -/
abbrev ObjOk (o : Obj) : Prop := rightS o = true ∧ NumOk o.num ∧ ∀ w, w ∈ o.parts → WordOk w
/-- What is built of a heap. -/
def Grown (h : List Int) (r : List Int × Int × Int) : Prop :=
  (r.2.2 ≠ 0 ∧ r.1 = [] ∧ r.2.1 = 0) ∨ (r.2.2 = 0 ∧ WordOk r.2.1 ∧ r.1.length ≤ 4000 ∧ ∃ L, r.1 = h ++ flat L ∧ ∀ o, o ∈ L → ObjOk o)


theorem buildL (F : List Int → List PV → List Int × Int × Int) (h : List Int) (k n : Int) (text : ByteArray) (args : List (List PV)) (h4 : h.length ≤ 4000) (hnk : NumOk n) (hargs : ∀ x, x ∈ args → x.length = 4) (hal : args.length ≤ 2513169434843)
    (hF : ∀ x, x ∈ args → ∀ g, g.length ≤ 4000 → ACallP Try.prog 23 [words g, .agg (x.map .p)] (.tup [words (F g x).1, wD (F g x).2.1, iD (F g x).2.2]) ∧ Grown g (F g x))
    (hval : ∀ x, x ∈ args → ∃ k n t a, x = [.lit (.int .i64 k), .lit (.int .i64 n), .lit (.string t), .sl a]) :
    ACallP Try.prog 23 [words h, valD k n text args] (.tup [words (buildN F h k n text args).1, wD (buildN F h k n text args).2.1, iD (buildN F h k n text args).2.2]) := by
  have hof := of k n text args
  obtain ⟨R0, hR0⟩ : ∃ R0, R0 = buildN F h k n text args := ⟨_, rfl⟩
  have hv : R0 = if (ofS k n text args).2 then (h, (ofS k n text args).1, 0) else
    if (kindB k n).1 == 0 then ([], 0, 1) else
    if n != 0 && (kindB k n).2 == 0 then ([], 0, 1) else
    if (foldB F args h []).2.2 != 0 then ([], 0, (foldB F args h []).2.2) else
    if (putS (foldB F args h []).1 ⟨0, (kindB k n).1, (kindB k n).2, text, (foldB F args h []).2.1⟩).2.2 != 0 then ([], 0, (putS (foldB F args h []).1 ⟨0, (kindB k n).1, (kindB k n).2, text, (foldB F args h []).2.1⟩).2.2) else
    ((putS (foldB F args h []).1 ⟨0, (kindB k n).1, (kindB k n).2, text, (foldB F args h []).2.1⟩).1, (wordS 4 (putS (foldB F args h []).1 ⟨0, (kindB k n).1, (kindB k n).2, text, (foldB F args h []).2.1⟩).2.1).1,
      (wordS 4 (putS (foldB F args h []).1 ⟨0, (kindB k n).1, (kindB k n).2, text, (foldB F args h []).2.1⟩).2.1).2) := hR0
  rw [← hR0]
  clear hR0
  generalize ofS k n text args = Q at hof hv
  obtain ⟨w0, b⟩ := Q
  simp only at hof hv
  refine acallp_fn [4, 5, 6] Try.func23 rfl rfl Try.ntmps23 (by simp) fun R hR => ?_
  (refine awp_reg_seq [0, 3] fun K hK => ?_; (repeat' ((refine al_r rfl fun K' hK' => ?_); (repeat (simp only [go_sem, simprocAttr])); ((refine hK' _ _ ?_) <;> clear hK' K'))); all_goals (refine al_nil ?_; (simp only [go_sem, simprocAttr]); refine hK _ ?_; clear hK K))
  (refine awp_frz [0, 3] [] (by decide) (by (simp; done)) ?_; simp only [go_sem, simprocAttr])
  refine awp_seq_k fun K hK => ?_
  (refine awp_reg_seq [0, 3, 7, 8] fun K hK => ?_; (repeat' ((refine al_r rfl fun K' hK' => ?_); (repeat (simp only [go_sem, simprocAttr])); (first | ((refine hK' _ _ ?_) <;> clear hK' K') | ((show AC _ _ (D.fn 56 _) _ _); refine acall_p (f := 56) (e := rfl) (hr := rfl) (k := hK' _ _ ?_) (hc := Try.call56) (h := hof); clear hK' K')))); all_goals (refine al_nil ?_; (simp only [go_sem, simprocAttr]); refine hK _ ?_; clear hK K))
  (refine awp_reg_seq [0, 3, 7, 24] fun K hK => ?_; (repeat' ((refine al_r rfl fun K' hK' => ?_); (repeat (simp only [go_sem, simprocAttr])); ((refine hK' _ _ ?_) <;> clear hK' K'))); all_goals (refine al_nil ?_; (simp only [go_sem, simprocAttr]); refine hK _ ?_; clear hK K))
  refine awp_if (b) rfl (fun hc => ?_) (fun hc => ?_)
  · have hcl := cloneH (h.map wrow) (wrow1 h) (by simp; omega)
    rw [List.length_map] at hcl
    have hth : List.take h.length (h.map wrow) = h.map wrow := List.take_of_length_le (by simp)
    (refine awp_reg_seq [4, 5, 6] fun K hK => ?_; (repeat' ((refine al_r rfl fun K' hK' => ?_); (repeat (simp only [go_sem, simprocAttr])); (first | ((refine hK' _ _ ?_) <;> clear hK' K') | ((show AC _ _ (D.fn 43 _) _ _); refine acall_new (f := 43) Try.call43 hcl rfl ?_; rintro r obs' ⟨rfl, rfl⟩; (simp only [go_sem, simprocAttr]); refine hK' _ _ ?_; clear hK' K')))); all_goals (refine al_nil ?_; (simp only [go_sem, simprocAttr]); refine hK _ ?_; clear hK K))
    refine awp_ret ?_; (refine hR _ _ (.inl rfl) rfl ?_)
    rw [if_pos hc] at hv
    rw [hv]
    simp only [go_sem, simprocAttr, hth]
  · rw [if_neg (by rw [hc]; simp)] at hv
    refine awp_skip ?_
    refine hK _ ?_; clear hK K
    (refine awp_reg_seq [0, 3, 9] fun K hK => ?_; (repeat' ((first | refine al_r rfl fun K' hK' => ?_ | refine al_d rfl fun K' hK' => ?_); (repeat (first | (simp only [go_sem, simprocAttr]) | refine AS.mk ?_)); ((first | refine hK' _ _ ?_ | refine ⟨?_, hK' _ _ ?_⟩) <;> clear hK' K' <;> (first | (show alist _ _ _ _ _ _; skip) | (simp; done))))); all_goals (refine al_nil ?_; (simp only [go_sem, simprocAttr]); refine hK _ ?_; clear hK K))
    refine awp_seq_k fun K hK => ?_
    have key : ∀ kk nn : Int, kk ≠ 0 → NumOk nn → kindB k n = (kk, nn) → K ⟨ofL [(0, words h), (3, .rd [.lit (.int .i64 k), .lit (.int .i64 n), .lit (.string text), .sl args] 0), (9, .ptr 0 0 0)], [.box [iD 0, iD kk, iD nn, .p (.lit (.string text)), .nil]], 0⟩ := by
      intro kk nn hkk hnn hkb
      rw [hkb] at hv
      simp only at hv
      rw [if_neg (by simpa using hkk)] at hv
      refine hK _ ?_; clear hK K
      refine awp_seq_k fun K hK => ?_
      (refine awp_reg_tov [0, 3, 9, 61] [(61, bD (n != 0 && nn == 0))] (h := ?_) (k := ?_); · ((repeat' (first | ((first | refine al_r rfl fun K' hK' => ?_ | refine al_t rfl rfl fun K' hK' => ?_); (repeat (simp only [go_sem, simprocAttr])); ((refine hK' _ _ ?_) <;> clear hK' K')) | refine al_e rfl rfl ?_ | ((fail_if_success (refine al_t rfl rfl fun K' hK' => ?_)); refine al_s _ rfl rfl rfl (fun hb => ?_) (fun hb => ?_)))); all_goals (refine al_nil ?_; simp only [go_sem, simprocAttr, *, Bool.and_true, Bool.and_false, Bool.true_and, Bool.false_and, Bool.or_true, Bool.true_or, Bool.or_false, Bool.false_or, Bool.not_true, Bool.not_false, Bool.false_eq_true]))); intro K hK; (simp only [go_sem, simprocAttr]); refine hK _ ?_; clear hK K
      refine awp_if (_) rfl (fun hc => ?_) (fun hc => ?_)
      · (refine awp_reg_seq [4, 5, 6] fun K hK => ?_; (repeat' ((refine al_r rfl fun K' hK' => ?_); (repeat (simp only [go_sem, simprocAttr])); ((refine hK' _ _ ?_) <;> clear hK' K'))); all_goals (refine al_nil ?_; (simp only [go_sem, simprocAttr]); refine hK _ ?_; clear hK K))
        refine awp_ret ?_; (refine hR _ _ (.inl rfl) rfl ?_)
        rw [if_pos hc] at hv
        rw [hv]
        simp only [go_sem, simprocAttr, List.map_nil]
        rfl
      · rw [if_neg (by rw [hc]; simp)] at hv
        refine awp_skip ?_
        refine hK _ ?_; clear hK K
        refine awp_seq_k fun K hK => ?_
        (refine awp_reg_seq [0, 9, 63, 64, 65] fun K hK => ?_; (repeat' ((refine al_r rfl fun K' hK' => ?_); (repeat (simp only [go_sem, simprocAttr])); ((first | refine hK' _ _ ?_ | refine ⟨?_, hK' _ _ ?_⟩) <;> clear hK' K' <;> (first | (show alist _ _ _ _ _ _; skip) | (intro s hs; cases hs; done))))); all_goals (refine al_nil ?_; (simp only [go_sem, simprocAttr]); refine hK _ ?_; clear hK K))
        refine awp_born_box 0 4 1 rfl rfl ?_
        simp only [go_sem, simprocAttr]
        refine awp_block ?_
        -- loop 0 head [0, 9, 63, 64, 65]
        refine awp_loop_cut (fun m s => ∃ (i : Nat) (g ws : List Int), i ≤ args.length ∧ m = args.length - i ∧ ws.length = i ∧ g.length ≤ 4000 ∧ foldB F args h [] = foldB F (args.drop i) g ws ∧ s = ⟨ofL [(0, words g), (9, .ptr 0 0 0), (63, .p (.sl args)), (64, iD args.length), (65, iD i)], [.box [iD 0, iD kk, iD nn, .p (.lit (.string text)), .ref 1 0 i], .row 1 (ws.map wrow)], 0⟩) ⟨_, 0, h, [], Nat.zero_le _, rfl, rfl, h4, rfl, rfl⟩ ?_
        rintro m s ⟨i, g, ws, hi, hmi, hwl, hg4, hfo, rfl⟩
        (refine awp_reg_seq [0, 9, 63, 64, 65, 66] fun K hK => ?_; (repeat' ((refine al_r rfl fun K' hK' => ?_); (repeat (simp only [go_sem, simprocAttr])); ((refine hK' _ _ ?_) <;> clear hK' K'))); all_goals (refine al_nil ?_; (simp only [go_sem, simprocAttr]); refine hK _ ?_; clear hK K))
        refine awp_seq_k fun K hK => ?_
        refine awp_if (decide ((i : Int) < (args.length : Int))) rfl (fun hc => ?_) (fun hc => ?_)
        · refine awp_skip ?_
          refine hK _ ?_; clear hK K
          refine awp_seq_k fun K hK => ?_
          refine awp_block ?_
          have hi2 : i < args.length := by simpa using hc
          obtain ⟨x, hget⟩ := get_of_lt hi2
          have hnn0 : (0 : Int) ≤ (i : Int) := Int.natCast_nonneg i
          have hnx : IntKind.i64.wrap ((i : Int) + 1) = ((i + 1 : Nat) : Int) := by rw [Go.Ab.wrap_small (by omega) (by omega)]; rfl
          rw [drop_of hget] at hfo
          have hfo2 : foldB F args h [] = if (F g x).2.2 != 0 then ([], [], (F g x).2.2) else foldB F (args.drop (i + 1)) (F g x).1 (ws ++ [(F g x).2.1]) := hfo
          clear hfo
          obtain ⟨hb, hgr⟩ := hF x (List.mem_of_getElem? hget) g hg4
          obtain ⟨k', n', t', a', rfl⟩ := hval x (List.mem_of_getElem? hget)
          simp only [List.map_cons, List.map_nil] at hb
          generalize F g _ = Q at hb hgr hfo2
          obtain ⟨g2, w2, e2⟩ := Q
          simp only at hb hfo2
          have hti : List.take i (ws.map wrow) = ws.map wrow := List.take_of_length_le (by simp [hwl])
          have hfi : (i + 1) * 8 ≤ 140737488355328 := by omega

          (refine awp_reg_seq [0, 9, 11, 63, 64, 65] fun K hK => ?_; (repeat' ((first | refine al_r rfl fun K' hK' => ?_ | refine al_d rfl fun K' hK' => ?_); (repeat (first | (simp only [go_sem, simprocAttr, hget, hnn0, hi2, hnx, hti, hfi, hwl, Int.toNat_natCast, List.length_map, List.drop_zero]) | refine AS.mk ?_)); ((first | refine hK' _ _ ?_ | refine ⟨?_, hK' _ _ ?_⟩) <;> clear hK' K' <;> (first | (show alist _ _ _ _ _ _; skip) | (simp; done))))); all_goals (refine al_nil ?_; (simp only [go_sem, simprocAttr, hget, hnn0, hi2, hnx, hti, hfi, hwl, Int.toNat_natCast, List.length_map, List.drop_zero]); refine hK _ ?_; clear hK K))
          (refine awp_frz [0, 9, 11, 63, 64, 65] [0, 1] (by decide) (by (simp; done)) ?_; simp only [go_sem, simprocAttr, hget, hnn0, hi2, hnx, hti, hfi, hwl, Int.toNat_natCast, List.length_map, List.drop_zero])
          (refine awp_reg_seq [9, 12, 13, 14, 63, 64, 65] fun K hK => ?_; (repeat' ((refine al_r rfl fun K' hK' => ?_); (repeat (simp only [go_sem, simprocAttr, hget, hnn0, hi2, hnx, hti, hfi, hwl, Int.toNat_natCast, List.length_map, List.drop_zero])); (first | ((refine hK' _ _ ?_) <;> clear hK' K') | ((show AC _ _ (D.fn 23 _) _ _); refine acall_p (f := 23) (e := rfl) (hr := rfl) (k := hK' _ _ ?_) (hc := Try.call23) (h := hb); clear hK' K')))); all_goals (refine al_nil ?_; (simp only [go_sem, simprocAttr, hget, hnn0, hi2, hnx, hti, hfi, hwl, Int.toNat_natCast, List.length_map, List.drop_zero]); refine hK _ ?_; clear hK K))
          refine awp_seq_k fun K hK => ?_
          (refine awp_reg_seq [9, 12, 13, 14, 63, 64, 65, 77] fun K hK => ?_; (repeat' ((refine al_r rfl fun K' hK' => ?_); (repeat (simp only [go_sem, simprocAttr, hget, hnn0, hi2, hnx, hti, hfi, hwl, Int.toNat_natCast, List.length_map, List.drop_zero])); ((refine hK' _ _ ?_) <;> clear hK' K'))); all_goals (refine al_nil ?_; (simp only [go_sem, simprocAttr, hget, hnn0, hi2, hnx, hti, hfi, hwl, Int.toNat_natCast, List.length_map, List.drop_zero]); refine hK _ ?_; clear hK K))
          refine awp_if (e2 != 0) rfl (fun hc => ?_) (fun hc => ?_)
          · (refine awp_reg_seq [4, 5, 6] fun K hK => ?_; (repeat' ((refine al_r rfl fun K' hK' => ?_); (repeat (simp only [go_sem, simprocAttr, hget, hnn0, hi2, hnx, hti, hfi, hwl, Int.toNat_natCast, List.length_map, List.drop_zero])); ((refine hK' _ _ ?_) <;> clear hK' K'))); all_goals (refine al_nil ?_; (simp only [go_sem, simprocAttr, hget, hnn0, hi2, hnx, hti, hfi, hwl, Int.toNat_natCast, List.length_map, List.drop_zero]); refine hK _ ?_; clear hK K))
            refine awp_ret ?_; (refine hR _ _ (.inl rfl) rfl ?_)
            rw [hfo2, if_pos hc, if_pos hc] at hv
            rw [hv]
            simp only [go_sem, simprocAttr, hget, hnn0, hi2, hnx, hti, hfi, hwl, Int.toNat_natCast, List.length_map, List.drop_zero, List.map_nil]
            rfl
          · rw [if_neg (by rw [hc]; simp)] at hfo2
            have he2 : e2 = 0 := by simpa using hc
            have hg2 : g2.length ≤ 4000 := by
              rcases hgr with ⟨h1, _⟩ | ⟨_, _, h1, _⟩
              · exact absurd he2 h1
              · exact h1
            refine awp_skip ?_
            refine hK _ ?_; clear hK K
            (refine awp_reg_end [0, 9, 63, 64, 65] fun K hK => ?_; (repeat' ((first | refine al_r rfl fun K' hK' => ?_ | refine al_d rfl fun K' hK' => ?_); (repeat (first | (simp only [go_sem, simprocAttr, hget, hnn0, hi2, hnx, hti, hfi, hwl, Int.toNat_natCast, List.length_map, List.drop_zero]) | refine AS.mk ?_ | refine AAp.grow ?_)); ((first | refine hK' _ _ ?_ | refine ⟨?_, hK' _ _ ?_⟩ | refine ⟨?_, ?_, hK' _ _ ?_⟩) <;> clear hK' K' <;> (first | (show alist _ _ _ _ _ _; skip) | (simp; done))))); all_goals (refine al_nil ?_; (simp only [go_sem, simprocAttr, hget, hnn0, hi2, hnx, hti, hfi, hwl, Int.toNat_natCast, List.length_map, List.drop_zero]); refine hK _ ?_; clear hK K))
            refine hK _ ?_; clear hK K
            (refine awp_reg_end [0, 9, 63, 64, 65] fun K hK => ?_; (repeat' ((refine al_r rfl fun K' hK' => ?_); (repeat (simp only [go_sem, simprocAttr, hget, hnn0, hi2, hnx, hti, hfi, hwl, Int.toNat_natCast, List.length_map, List.drop_zero])); ((refine hK' _ _ ?_) <;> clear hK' K'))); all_goals (refine al_nil ?_; (simp only [go_sem, simprocAttr, hget, hnn0, hi2, hnx, hti, hfi, hwl, Int.toNat_natCast, List.length_map, List.drop_zero]); refine hK _ ?_; clear hK K))
            refine ⟨args.length - (i + 1), by omega, [0, 9, 63, 64, 65], [0, 3], by decide, by intro q hq; exact absurd hq (Nat.not_lt_zero q), i + 1, g2, ws ++ [w2], hi2, rfl, by simp; omega, hg2, hfo2, ?_⟩
            simp only [go_sem, simprocAttr, hget, hnn0, hi2, hnx, hti, hfi, hwl, Int.toNat_natCast, List.length_map, List.drop_zero]

        · have hie : i = args.length := by simp at hc; omega
          subst hie
          rw [List.drop_length] at hfo
          have hfo3 : foldB F args h [] = (g, ws, 0) := hfo
          rw [hfo3] at hv
          simp only at hv
          rw [if_neg (by simp)] at hv
          have hti : List.take args.length (ws.map wrow) = ws.map wrow := List.take_of_length_le (by simp [hwl])
          have hpu := put g ⟨0, kk, nn, text, ws⟩ (by simp [maxLen]; omega)
          generalize putS g ⟨0, kk, nn, text, ws⟩ = P at hpu hv
          obtain ⟨p1, pa, pe⟩ := P
          simp only at hpu hv
          have hwo := word 4 pa
          generalize wordS 4 pa = W at hwo hv
          obtain ⟨ww, we⟩ := W
          simp only at hwo hv
          refine awp_exit ?_
          clear hK
          refine hK _ ?_; clear hK K
          (refine awp_frz [0, 9] [] (by decide) (by (simp; done)) ?_; simp only [go_sem, simprocAttr, List.length_map])

          (refine awp_reg_seq [15, 16, 17] fun K hK => ?_; (repeat' ((refine al_r rfl fun K' hK' => ?_); (repeat (simp only [go_sem, simprocAttr, List.length_map, hti])); (first | ((refine hK' _ _ ?_) <;> clear hK' K') | ((show AC _ _ (D.fn 17 _) _ _); refine acall_p (f := 17) (e := rfl) (hr := rfl) (k := hK' _ _ ?_) (hc := Try.call17) (h := hpu); clear hK' K')))); all_goals (refine al_nil ?_; (simp only [go_sem, simprocAttr, List.length_map, hti]); refine hK _ ?_; clear hK K))
          refine awp_seq_k fun K hK => ?_
          (refine awp_reg_seq [15, 16, 17, 95] fun K hK => ?_; (repeat' ((refine al_r rfl fun K' hK' => ?_); (repeat (simp only [go_sem, simprocAttr, List.length_map, hti])); ((refine hK' _ _ ?_) <;> clear hK' K'))); all_goals (refine al_nil ?_; (simp only [go_sem, simprocAttr, List.length_map, hti]); refine hK _ ?_; clear hK K))
          refine awp_if (pe != 0) rfl (fun hc => ?_) (fun hc => ?_)
          · (refine awp_reg_seq [4, 5, 6] fun K hK => ?_; (repeat' ((refine al_r rfl fun K' hK' => ?_); (repeat (simp only [go_sem, simprocAttr, List.length_map, hti])); ((refine hK' _ _ ?_) <;> clear hK' K'))); all_goals (refine al_nil ?_; (simp only [go_sem, simprocAttr, List.length_map, hti]); refine hK _ ?_; clear hK K))
            refine awp_ret ?_; (refine hR _ _ (.inl rfl) rfl ?_)
            rw [if_pos hc] at hv
            rw [hv]
            simp only [go_sem, simprocAttr, List.length_map, hti, List.map_nil]
            rfl
          · rw [if_neg (by rw [hc]; simp)] at hv
            refine awp_skip ?_
            refine hK _ ?_; clear hK K
            (refine awp_reg_seq [15, 17, 18] fun K hK => ?_; (repeat' ((refine al_r rfl fun K' hK' => ?_); (repeat (simp only [go_sem, simprocAttr, List.length_map, hti])); (first | ((refine hK' _ _ ?_) <;> clear hK' K') | ((show AC _ _ (D.fn 57 _) _ _); refine acall_p (f := 57) (e := rfl) (hr := rfl) (k := hK' _ _ ?_) (hc := Try.call57) (h := hwo); clear hK' K')))); all_goals (refine al_nil ?_; (simp only [go_sem, simprocAttr, List.length_map, hti]); refine hK _ ?_; clear hK K))
            (refine awp_reg_seq [4, 5, 6] fun K hK => ?_; (repeat' ((refine al_r rfl fun K' hK' => ?_); (repeat (simp only [go_sem, simprocAttr, List.length_map, hti])); ((refine hK' _ _ ?_) <;> clear hK' K'))); all_goals (refine al_nil ?_; (simp only [go_sem, simprocAttr, List.length_map, hti]); refine hK _ ?_; clear hK K))
            refine awp_ret ?_; (refine hR _ _ (.inl rfl) rfl ?_)
            rw [hv]
            simp only [go_sem, simprocAttr, List.length_map, hti]

    (refine awp_reg_seq [0, 3, 9, 32] fun K hK => ?_; (repeat' ((refine al_r rfl fun K' hK' => ?_); (repeat (simp only [go_sem, simprocAttr, List.length_map])); ((refine hK' _ _ ?_) <;> clear hK' K'))); all_goals (refine al_nil ?_; (simp only [go_sem, simprocAttr, List.length_map]); refine hK _ ?_; clear hK K))
    refine awp_block ?_
    (refine awp_reg_seq [0, 3, 9, 32, 33] fun K hK => ?_; (repeat' ((refine al_r rfl fun K' hK' => ?_); (repeat (simp only [go_sem, simprocAttr, List.length_map])); ((refine hK' _ _ ?_) <;> clear hK' K'))); all_goals (refine al_nil ?_; (simp only [go_sem, simprocAttr, List.length_map]); refine hK _ ?_; clear hK K))
    refine awp_if (_) rfl (fun hc => ?_) (fun hc => ?_)
    · have hkb : kindB k n = (1, n) := by unfold kindB; rw [if_pos hc]
      refine awp_draw (by kernel_rfl) [0, 3, 9] fun K hK => ?_
      ((refine ah_r 0 rfl (by kernel_rfl) rfl fun K' hK' => ?_); (simp only [go_sem, simprocAttr, List.length_map]); ((refine hK' _ ?_); clear hK' K'))
      ((refine ah_r 1 rfl (by kernel_rfl) rfl fun K' hK' => ?_); (simp only [go_sem, simprocAttr, List.length_map]); ((refine hK' _ ?_); clear hK' K'))
      ((refine ah_r 2 rfl (by kernel_rfl) rfl fun K' hK' => ?_); (simp only [go_sem, simprocAttr, List.length_map]); ((refine hK' _ ?_); clear hK' K'))
      (refine ah_one 3 rfl (by kernel_rfl) ?_; (repeat' ((refine al_d rfl fun K' hK' => ?_); (repeat (first | (simp only [go_sem, simprocAttr, List.length_map]) | refine AS.mk ?_)); ((refine ⟨?_, hK' _ _ ?_⟩) <;> clear hK' K' <;> (first | (show alist _ _ _ _ _ _; skip) | (simp; done))))); all_goals refine al_nil ?_)
      ((refine ah_r 4 rfl (by kernel_rfl) rfl fun K' hK' => ?_); (simp only [go_sem, simprocAttr, List.length_map]); ((refine hK' _ ?_); clear hK' K'))
      (refine ah_one 5 rfl (by kernel_rfl) ?_; (repeat' ((refine al_d rfl fun K' hK' => ?_); (repeat (first | (simp only [go_sem, simprocAttr, List.length_map]) | refine AS.mk ?_)); ((refine ⟨?_, hK' _ _ ?_⟩) <;> clear hK' K' <;> (first | (show alist _ _ _ _ _ _; skip) | (simp; done))))); all_goals refine al_nil ?_)
      (refine ah_done (by kernel_rfl) ?_; (simp only [go_sem, simprocAttr, List.length_map]); refine hK _ ?_; clear hK K)
      (exact key _ _ (by decide) hnk hkb)
    · have c1 := hc
      (refine awp_reg_seq [0, 3, 9, 32, 39] fun K hK => ?_; (repeat' ((refine al_r rfl fun K' hK' => ?_); (repeat (simp only [go_sem, simprocAttr, List.length_map])); ((refine hK' _ _ ?_) <;> clear hK' K'))); all_goals (refine al_nil ?_; (simp only [go_sem, simprocAttr, List.length_map]); refine hK _ ?_; clear hK K))
      refine awp_if (_) rfl (fun hc => ?_) (fun hc => ?_)
      · have hkb : kindB k n = (2, 0) := by unfold kindB; rw [if_neg (by rw [c1]; simp), if_pos hc]
        (refine awp_reg_end [0, 3, 9] fun K hK => ?_; (repeat' ((first | refine al_r rfl fun K' hK' => ?_ | refine al_d rfl fun K' hK' => ?_); (repeat (first | (simp only [go_sem, simprocAttr, List.length_map]) | refine AS.mk ?_)); ((first | refine hK' _ _ ?_ | refine ⟨?_, hK' _ _ ?_⟩) <;> clear hK' K' <;> (first | (show alist _ _ _ _ _ _; skip) | (simp; done))))); all_goals (refine al_nil ?_; (simp only [go_sem, simprocAttr, List.length_map]); refine hK _ ?_; clear hK K))
        (exact key _ _ (by decide) ⟨by decide, by decide⟩ hkb)
      · have c2 := hc
        (refine awp_reg_seq [0, 3, 9, 32, 42] fun K hK => ?_; (repeat' ((refine al_r rfl fun K' hK' => ?_); (repeat (simp only [go_sem, simprocAttr, List.length_map])); ((refine hK' _ _ ?_) <;> clear hK' K'))); all_goals (refine al_nil ?_; (simp only [go_sem, simprocAttr, List.length_map]); refine hK _ ?_; clear hK K))
        refine awp_if (_) rfl (fun hc => ?_) (fun hc => ?_)
        · have hkb : kindB k n = (3, 0) := by unfold kindB; rw [if_neg (by rw [c1]; simp), if_neg (by rw [c2]; simp), if_pos hc]
          (refine awp_reg_end [0, 3, 9] fun K hK => ?_; (repeat' ((first | refine al_r rfl fun K' hK' => ?_ | refine al_d rfl fun K' hK' => ?_); (repeat (first | (simp only [go_sem, simprocAttr, List.length_map]) | refine AS.mk ?_)); ((first | refine hK' _ _ ?_ | refine ⟨?_, hK' _ _ ?_⟩) <;> clear hK' K' <;> (first | (show alist _ _ _ _ _ _; skip) | (simp; done))))); all_goals (refine al_nil ?_; (simp only [go_sem, simprocAttr, List.length_map]); refine hK _ ?_; clear hK K))
          (exact key _ _ (by decide) ⟨by decide, by decide⟩ hkb)
        · have c3' := hc
          (refine awp_reg_seq [0, 3, 9, 32, 45] fun K hK => ?_; (repeat' ((refine al_r rfl fun K' hK' => ?_); (repeat (simp only [go_sem, simprocAttr, List.length_map])); ((refine hK' _ _ ?_) <;> clear hK' K'))); all_goals (refine al_nil ?_; (simp only [go_sem, simprocAttr, List.length_map]); refine hK _ ?_; clear hK K))
          refine awp_if (_) rfl (fun hc => ?_) (fun hc => ?_)
          · have hkb : kindB k n = (4, n) := by unfold kindB; rw [if_neg (by rw [c1]; simp), if_neg (by rw [c2]; simp), if_neg (by rw [c3']; simp), if_pos hc]
            refine awp_draw (by kernel_rfl) [0, 3, 9] fun K hK => ?_
            ((refine ah_r 0 rfl (by kernel_rfl) rfl fun K' hK' => ?_); (simp only [go_sem, simprocAttr, List.length_map]); ((refine hK' _ ?_); clear hK' K'))
            ((refine ah_r 1 rfl (by kernel_rfl) rfl fun K' hK' => ?_); (simp only [go_sem, simprocAttr, List.length_map]); ((refine hK' _ ?_); clear hK' K'))
            ((refine ah_r 2 rfl (by kernel_rfl) rfl fun K' hK' => ?_); (simp only [go_sem, simprocAttr, List.length_map]); ((refine hK' _ ?_); clear hK' K'))
            (refine ah_one 3 rfl (by kernel_rfl) ?_; (repeat' ((refine al_d rfl fun K' hK' => ?_); (repeat (first | (simp only [go_sem, simprocAttr, List.length_map]) | refine AS.mk ?_)); ((refine ⟨?_, hK' _ _ ?_⟩) <;> clear hK' K' <;> (first | (show alist _ _ _ _ _ _; skip) | (simp; done))))); all_goals refine al_nil ?_)
            ((refine ah_r 4 rfl (by kernel_rfl) rfl fun K' hK' => ?_); (simp only [go_sem, simprocAttr, List.length_map]); ((refine hK' _ ?_); clear hK' K'))
            (refine ah_one 5 rfl (by kernel_rfl) ?_; (repeat' ((refine al_d rfl fun K' hK' => ?_); (repeat (first | (simp only [go_sem, simprocAttr, List.length_map]) | refine AS.mk ?_)); ((refine ⟨?_, hK' _ _ ?_⟩) <;> clear hK' K' <;> (first | (show alist _ _ _ _ _ _; skip) | (simp; done))))); all_goals refine al_nil ?_)
            (refine ah_done (by kernel_rfl) ?_; (simp only [go_sem, simprocAttr, List.length_map]); refine hK _ ?_; clear hK K)
            (exact key _ _ (by decide) hnk hkb)
          · have c4 := hc
            (refine awp_reg_seq [0, 3, 9, 51] fun K hK => ?_; (repeat' ((refine al_r rfl fun K' hK' => ?_); (repeat (simp only [go_sem, simprocAttr, List.length_map])); ((refine hK' _ _ ?_) <;> clear hK' K'))); all_goals (refine al_nil ?_; (simp only [go_sem, simprocAttr, List.length_map]); refine hK _ ?_; clear hK K))
            refine awp_if (_) rfl (fun hc => ?_) (fun hc => ?_)
            · have hkb : kindB k n = (5, 0) := by unfold kindB; rw [if_neg (by rw [c1]; simp), if_neg (by rw [c2]; simp), if_neg (by rw [c3']; simp), if_neg (by rw [c4]; simp), if_pos hc]
              (refine awp_reg_end [0, 3, 9] fun K hK => ?_; (repeat' ((first | refine al_r rfl fun K' hK' => ?_ | refine al_d rfl fun K' hK' => ?_); (repeat (first | (simp only [go_sem, simprocAttr, List.length_map]) | refine AS.mk ?_)); ((first | refine hK' _ _ ?_ | refine ⟨?_, hK' _ _ ?_⟩) <;> clear hK' K' <;> (first | (show alist _ _ _ _ _ _; skip) | (simp; done))))); all_goals (refine al_nil ?_; (simp only [go_sem, simprocAttr, List.length_map]); refine hK _ ?_; clear hK K))
              (exact key _ _ (by decide) ⟨by decide, by decide⟩ hkb)
            · have hkb : kindB k n = (0, 0) := by unfold kindB; rw [if_neg (by rw [c1]; simp), if_neg (by rw [c2]; simp), if_neg (by rw [c3']; simp), if_neg (by rw [c4]; simp), if_neg (by rw [hc]; simp)]
              (refine awp_reg_seq [4, 5, 6] fun K hK => ?_; (repeat' ((refine al_r rfl fun K' hK' => ?_); (repeat (simp only [go_sem, simprocAttr, List.length_map])); ((refine hK' _ _ ?_) <;> clear hK' K'))); all_goals (refine al_nil ?_; (simp only [go_sem, simprocAttr, List.length_map]); refine hK _ ?_; clear hK K))
              refine awp_ret ?_; (refine hR _ _ (.inl rfl) rfl ?_)
              rw [hkb] at hv
              rw [hv]
              simp only [go_sem, simprocAttr, List.length_map, List.map_nil]
              rfl
end Go.Proofs.Ytagphggcdmjlpaa.P

/- A value that is built makes a heap grow by objects; the depth of values, told ahead. -/
namespace Go.Proofs.Ytagphggcdmjlpaa.P
open Go.Ab Go.Proofs.Ytagphggcdmjlpaa.T

theorem c38 : Try.prog.cellsOf 38 = 4 := by kernel_rfl
theorem c3 : Try.prog.cellsOf 3 = 1 := by kernel_rfl
theorem c9 : Try.prog.cellsOf 9 = 1 := by kernel_rfl
theorem c36 : Try.prog.cellsOf 36 = 1 := by kernel_rfl
theorem b38 : Try.prog.bytesOf 38 = 56 := by kernel_rfl

theorem num_wf {n : Int} (h : (Lit.int .i64 n).wf = true) : NumOk n := by
  simp [Lit.wf, IntKind.min, IntKind.max, IntKind.signed, IntKind.bits] at h
  exact ⟨by omega, by omega⟩

set_option maxRecDepth 100000 in
theorem sh38 {f : Nat} {xs : List PV} (h : shapeOk Try.prog f 38 xs) : ∃ k n text args g, xs = [.lit (.int .i64 k), .lit (.int .i64 n), .lit (.string text), .sl args] ∧ g < f ∧ args.length ≤ maxLen ∧ args.length ≤ 2513169434843 ∧ NumOk n ∧ ∀ r, r ∈ args → r.length = 4 ∧ shapeOk Try.prog g 38 r := by
  obtain ⟨m, rfl, hl, hf⟩ := shape_struct Try.underlying38 h
  rw [c38] at hl
  match xs, hl with
  | [a, b, c, d], _ =>
    have h0 := hf _ (List.mem_cons_self)
    have h1 := hf _ (List.mem_cons_of_mem _ List.mem_cons_self)
    have h2 := hf _ (List.mem_cons_of_mem _ (List.mem_cons_of_mem _ List.mem_cons_self))
    have h3 := hf _ (List.mem_cons_of_mem _ (List.mem_cons_of_mem _ (List.mem_cons_of_mem _ List.mem_cons_self)))
    simp only [c3, c9, c36, List.drop_zero, List.drop_succ_cons, List.take_succ_cons, List.take_zero] at h0 h1 h2 h3
    obtain ⟨k, e0, _⟩ := shape_int Try.underlying3 h0
    obtain ⟨n, e1, hn⟩ := shape_int Try.underlying3 h1
    obtain ⟨s, e2, _⟩ := shape_string Try.underlying9 h2
    obtain ⟨g, r, hg, e3, e4, e5, e6⟩ := shape_slice Try.underlying36 h3
    simp only [List.cons.injEq, and_true] at e0 e1 e2 e3
    rw [c38] at e6
    rw [b38] at e5
    have hre : reachBytes = 140737488351232 := by kernel_rfl
    exact ⟨k, n, s, r, g, by rw [e0, e1, e2, e3], by omega, e4, by omega, num_wf hn, e6⟩

theorem kindB_ok {k n : Int} (h : NumOk n) : NumOk (kindB k n).2 := by
  have h0 : NumOk 0 := ⟨by decide, by decide⟩
  unfold kindB
  split <;> first | exact h | skip
  split <;> first | exact h0 | skip
  split <;> first | exact h0 | skip
  split <;> first | exact h | skip
  split <;> exact h0

theorem foldB_grown {F : List Int → List PV → List Int × Int × Int} : ∀ (l : List (List PV)) (g ws : List Int), g.length ≤ 4000 → (∀ w, w ∈ ws → WordOk w) → (∀ x, x ∈ l → ∀ g, g.length ≤ 4000 → Grown g (F g x)) →
    (foldB F l g ws).2.2 = 0 → (foldB F l g ws).1.length ≤ 4000 ∧ (∀ w, w ∈ (foldB F l g ws).2.1 → WordOk w) ∧ ∃ L, (foldB F l g ws).1 = g ++ flat L ∧ ∀ o, o ∈ L → ObjOk o
  | [], g, ws, hg, hw, _, _ => ⟨hg, hw, [], by simp [foldB, flat], by simp⟩
  | x :: l, g, ws, hg, hw, hF, he => by
    unfold foldB at he ⊢
    by_cases hc : ((F g x).2.2 != 0) = true
    · rw [if_pos hc] at he
      simp at hc
      exact absurd he hc
    · rw [if_neg hc] at he ⊢
      rcases hF x List.mem_cons_self g hg with ⟨h1, _⟩ | ⟨_, h2, h3, L, h4, h5⟩
      · exact absurd h1 (by simpa using hc)
      · obtain ⟨r1, r2, L2, r3, r4⟩ := foldB_grown l (F g x).1 (ws ++ [(F g x).2.1]) h3 (fun w hw2 => by
          rcases List.mem_append.1 hw2 with h | h
          · exact hw w h
          · rw [List.mem_singleton.1 h]; exact h2) (fun y hy => hF y (List.mem_cons_of_mem _ hy)) he
        refine ⟨r1, r2, L ++ L2, by rw [r3, h4, flat_append, List.append_assoc], fun o ho => ?_⟩
        rcases List.mem_append.1 ho with h | h
        · exact h5 o h
        · exact r4 o h

theorem word4 {m : Nat} (h : m ≤ 4000) : (wordS 4 (m : Int)).2 = 0 := by
  have : fits 4 (m : Int) = true := by
    unfold fits
    have h1 : decide ((m : Int) ≥ 0) = true := by simp
    have h2 : decide ((m : Int) < 1152921504606846976) = true := by simp; omega
    rw [h1, h2]; simp
  unfold wordS
  rw [if_pos this]

theorem grown_ok {h r : List Int} {w e : Int} (he : e = 0) (hw : WordOk w) (hl : r.length ≤ 4000) (L : List Obj) (hr : r = h ++ flat L) (hL : ∀ o, o ∈ L → ObjOk o) : Grown h (r, w, e) := .inr ⟨he, hw, hl, L, hr, hL⟩
theorem grown_err {h : List Int} {e : Int} (he : e ≠ 0) : Grown h ([], 0, e) := .inl ⟨he, rfl, rfl⟩

theorem buildN_grown {F : List Int → List PV → List Int × Int × Int} {h : List Int} {k n : Int} {text : ByteArray} {args : List (List PV)} (h4 : h.length ≤ 4000) (hn : NumOk n)
    (hF : ∀ x, x ∈ args → ∀ g, g.length ≤ 4000 → Grown g (F g x)) : Grown h (buildN F h k n text args) := by
  have hWk := wordS_ok
  unfold buildN
  split
  · exact grown_ok rfl (ofS_ok _ _ _ _) h4 [] (by simp [flat]) (by simp)
  split
  · exact grown_err (by decide)
  split
  · exact grown_err (by decide)
  split
  · rename_i hc
    exact grown_err (by simpa using hc)
  rename_i hc
  obtain ⟨r1, r2, L, r3, r4⟩ := foldB_grown args h [] h4 (by simp) hF (by simpa using hc)
  generalize foldB F args h [] = Q at *
  obtain ⟨g, ws, e⟩ := Q
  simp only at r1 r2 r3 hc ⊢
  split
  · rename_i hp
    exact grown_err (by simpa using hp)
  rename_i hp
  have hel := enc_len ⟨0, (kindB k n).1, (kindB k n).2, text, ws⟩
  have hnk := kindB_ok (k := k) hn
  generalize (kindB k n).1 = kk at *
  generalize (kindB k n).2 = nn at *
  unfold putS at hp ⊢
  by_cases hr : (!rightS ⟨0, kk, nn, text, ws⟩) = true
  · rw [if_pos hr] at hp; simp at hp
  rw [if_neg hr] at hp ⊢
  by_cases hl : decide ((g.length : Int) > 4000 - (roomN kk text.size ws.length : Int)) = true
  · rw [if_pos hl] at hp; simp at hp
  rw [if_neg hl]
  simp only [decide_eq_true_eq] at hl
  simp only at hel ⊢
  have hw4 : ∀ m : Nat, m ≤ 4000 → (wordS 4 (m : Int)).2 = 0 := fun m => word4
  generalize wordS = W at hw4 hWk ⊢
  have e1 := hw4 g.length r1
  have e2 := hWk 4 (g.length : Int)
  refine grown_ok e1 e2 (by rw [List.length_append, hel]; omega) (L ++ [⟨0, kk, nn, text, ws⟩]) (by rw [r3, flat_append, List.append_assoc]; simp [flat]) fun o ho => ?_
  rcases List.mem_append.1 ho with h | h
  · exact r4 o h
  · rw [List.mem_singleton.1 h]
    refine ⟨?_, hnk, r2⟩
    generalize rightS (⟨0, kk, nn, text, ws⟩ : Obj) = b at hr ⊢
    simpa using hr

theorem buildEx : ∀ (f : Nat) (xs : List PV), shapeOk Try.prog f 38 xs → ∃ B : List Int → List Int × Int × Int, ∀ h, h.length ≤ 4000 → ACallP Try.prog 23 [words h, .agg (xs.map .p)] (.tup [words (B h).1, wD (B h).2.1, iD (B h).2.2]) ∧ Grown h (B h) := by
  intro f
  induction f using Nat.strongRecOn
  rename_i f ih
  intro xs hxs
  obtain ⟨k, n, text, args, g, rfl, hg, hmax, hal, hn, hargs⟩ := sh38 hxs
  have hch : ∀ x : List PV, ∃ B : List Int → List Int × Int × Int, x ∈ args → ∀ h, h.length ≤ 4000 → ACallP Try.prog 23 [words h, .agg (x.map .p)] (.tup [words (B h).1, wD (B h).2.1, iD (B h).2.2]) ∧ Grown h (B h) := fun x => by
    by_cases hx : x ∈ args
    · obtain ⟨B, hB⟩ := ih g hg x (hargs x hx).2
      exact ⟨B, fun _ => hB⟩
    · exact ⟨fun _ => ([], 0, 0), fun h => absurd h hx⟩
  obtain ⟨F, hF⟩ : ∃ F : List PV → List Int → List Int × Int × Int, ∀ x, x ∈ args → ∀ h, h.length ≤ 4000 → ACallP Try.prog 23 [words h, .agg (x.map .p)] (.tup [words (F x h).1, wD (F x h).2.1, iD (F x h).2.2]) ∧ Grown h (F x h) :=
    ⟨fun x => Classical.choose (hch x), fun x => Classical.choose_spec (hch x)⟩
  refine ⟨fun h => buildN (fun g x => F x g) h k n text args, fun h h4 => ⟨?_, buildN_grown h4 hn fun x hx g hg4 => (hF x hx g hg4).2⟩⟩
  exact buildL (fun g x => F x g) h k n text args h4 hn (fun x hx => (hargs x hx).1) hal (fun x hx g hg4 => hF x hx g hg4) (fun x hx => by
    obtain ⟨k, n, t, a, _, e, _⟩ := sh38 (hargs x hx).2
    exact ⟨k, n, t, a, e⟩)

/-- What the loop of Deep adds up. -/
def deepAcc (F : List PV → Int × Int) (l : List (List PV)) : Int × Int := l.foldl (fun a x => (if (F x).1 > a.1 then (F x).1 else a.1, IntKind.i64.wrap (a.2 + (F x).2))) (0, 1)

theorem deepAcc_succ (F : List PV → Int × Int) {l : List (List PV)} {i : Nat} {x : List PV} (h : l[i]? = some x) :
    deepAcc F (l.take (i + 1)) = (if (F x).1 > (deepAcc F (l.take i)).1 then (F x).1 else (deepAcc F (l.take i)).1, IntKind.i64.wrap ((deepAcc F (l.take i)).2 + (F x).2)) := by
  unfold deepAcc
  rw [List.take_add_one, h]
  simp


theorem deepP : ∀ (f : Nat) (xs : List PV), shapeOk Try.prog f 38 xs → ∃ d m, ACallP Try.prog 24 [.agg (xs.map .p)] (.tup [iD d, iD m]) := by
  intro f
  induction f using Nat.strongRecOn
  rename_i f ih
  intro xs hxs
  obtain ⟨k, n, text, args, g, rfl, hg, hmax, _, _, hargs⟩ := sh38 hxs
  have hch : ∀ x : List PV, ∃ dm : Int × Int, x ∈ args → ACallP Try.prog 24 [.agg (x.map .p)] (.tup [iD dm.1, iD dm.2]) := fun x => by
    by_cases hx : x ∈ args
    · obtain ⟨d, m, h⟩ := ih g hg x (hargs x hx).2
      exact ⟨(d, m), fun _ => h⟩
    · exact ⟨(0, 0), fun h => absurd h hx⟩
  obtain ⟨F, hF⟩ : ∃ F : List PV → Int × Int, ∀ x, x ∈ args → ACallP Try.prog 24 [.agg (x.map .p)] (.tup [iD (F x).1, iD (F x).2]) := ⟨fun x => Classical.choose (hch x), fun x => Classical.choose_spec (hch x)⟩
  clear hch ih
  refine ⟨IntKind.i64.wrap ((deepAcc F args).1 + 1), (deepAcc F args).2, ?_⟩
  refine acallp_fn [2, 3] Try.func24 rfl rfl Try.ntmps24 (by simp) fun R hR => ?_
  (refine awp_reg_seq [1] fun K hK => ?_; (repeat' ((refine al_r rfl fun K' hK' => ?_); (repeat (simp only [go_sem, simprocAttr])); ((refine hK' _ _ ?_) <;> clear hK' K'))); all_goals (refine al_nil ?_; (simp only [go_sem, simprocAttr]); refine hK _ ?_; clear hK K))
  (refine awp_frz [1] [] (by decide) (by (simp; done)) ?_; simp only [go_sem, simprocAttr])
  (refine awp_reg_seq [1, 4, 5] fun K hK => ?_; (repeat' ((refine al_r rfl fun K' hK' => ?_); (repeat (simp only [go_sem, simprocAttr])); ((refine hK' _ _ ?_) <;> clear hK' K'))); all_goals (refine al_nil ?_; (simp only [go_sem, simprocAttr]); refine hK _ ?_; clear hK K))
  refine awp_seq_k fun K hK => ?_
  (refine awp_reg_seq [4, 5, 11, 12, 13] fun K hK => ?_; (repeat' ((refine al_r rfl fun K' hK' => ?_); (repeat (simp only [go_sem, simprocAttr])); ((first | refine hK' _ _ ?_ | refine ⟨?_, hK' _ _ ?_⟩) <;> clear hK' K' <;> (first | (show alist _ _ _ _ _ _; skip) | (intro s hs; cases hs; done))))); all_goals (refine al_nil ?_; (simp only [go_sem, simprocAttr]); refine hK _ ?_; clear hK K))
  refine awp_block ?_
  -- loop 0 head [4, 5, 11, 12, 13]
  refine awp_loop (fun m s => ∃ i : Nat, i ≤ args.length ∧ m = args.length - i ∧ s = ⟨ofL [(4, iD (deepAcc F (args.take i)).1), (5, iD (deepAcc F (args.take i)).2), (11, .p (.sl args)), (12, iD args.length), (13, iD i)], [], 0⟩) ⟨_, 0, Nat.zero_le _, rfl, rfl⟩ ?_
  rintro m s ⟨i, hi, rfl, rfl⟩
  (refine awp_reg_seq [4, 5, 11, 12, 13, 14] fun K hK => ?_; (repeat' ((refine al_r rfl fun K' hK' => ?_); (repeat (simp only [go_sem, simprocAttr])); ((refine hK' _ _ ?_) <;> clear hK' K'))); all_goals (refine al_nil ?_; (simp only [go_sem, simprocAttr]); refine hK _ ?_; clear hK K))
  refine awp_seq_k fun K hK => ?_
  refine awp_if (decide ((i : Int) < args.length)) rfl (fun hc => ?_) (fun hc => ?_)
  · refine awp_skip ?_
    refine hK _ ?_; clear hK K
    refine awp_seq_k fun K hK => ?_
    refine awp_block ?_
    have hi2 : i < args.length := by simpa using hc
    obtain ⟨x, hget⟩ := get_of_lt hi2
    have hnn : (0 : Int) ≤ (i : Int) := Int.natCast_nonneg i
    have hnx : IntKind.i64.wrap ((i : Int) + 1) = ((i + 1 : Nat) : Int) := wrap_next hi2 hmax
    obtain ⟨hx4, hxs⟩ := hargs x (List.mem_of_getElem? hget)
    have hcall := hF x (List.mem_of_getElem? hget)
    have hacc := deepAcc_succ F hget
    obtain ⟨y0, y1, y2, y3, _, rfl, _, _⟩ := sh38 hxs
    generalize F _ = dm at hcall hacc
    generalize deepAcc F (args.take i) = A at *
    simp only [List.map_cons, List.map_nil] at hcall

    (refine awp_reg_seq [4, 5, 7, 11, 12, 13] fun K hK => ?_; (repeat' ((first | refine al_r rfl fun K' hK' => ?_ | refine al_d rfl fun K' hK' => ?_); (repeat (first | (simp only [go_sem, simprocAttr, hget, hnn, hi2, hnx, Int.toNat_natCast]) | refine AS.mk ?_)); ((first | refine hK' _ _ ?_ | refine ⟨?_, hK' _ _ ?_⟩) <;> clear hK' K' <;> (first | (show alist _ _ _ _ _ _; skip) | (simp; done))))); all_goals (refine al_nil ?_; (simp only [go_sem, simprocAttr, hget, hnn, hi2, hnx, Int.toNat_natCast]); refine hK _ ?_; clear hK K))
    (refine awp_frz [4, 5, 7, 11, 12, 13] [] (by decide) (by (simp; done)) ?_; simp only [go_sem, simprocAttr, hget, hnn, hi2, hnx, Int.toNat_natCast])
    (refine awp_reg_seq [4, 5, 8, 9, 11, 12, 13] fun K hK => ?_; (repeat' ((refine al_r rfl fun K' hK' => ?_); (repeat (simp only [go_sem, simprocAttr, hget, hnn, hi2, hnx, Int.toNat_natCast])); (first | ((refine hK' _ _ ?_) <;> clear hK' K') | ((show AC _ _ (D.fn 24 _) _ _); refine acall_p (f := 24) (e := rfl) (hr := rfl) (k := hK' _ _ ?_) (hc := Try.call24) (h := hcall); clear hK' K')))); all_goals (refine al_nil ?_; (simp only [go_sem, simprocAttr, hget, hnn, hi2, hnx, Int.toNat_natCast]); refine hK _ ?_; clear hK K))
    (refine awp_reg_end [4, 5, 11, 12, 13] fun K hK => ?_; (repeat' ((refine al_r rfl fun K' hK' => ?_); (repeat (simp only [go_sem, simprocAttr, hget, hnn, hi2, hnx, Int.toNat_natCast])); ((refine hK' _ _ ?_) <;> clear hK' K'))); all_goals (refine al_nil ?_; (simp only [go_sem, simprocAttr, hget, hnn, hi2, hnx, Int.toNat_natCast]); refine hK _ ?_; clear hK K))
    refine hK _ ?_; clear hK K
    (refine awp_reg_end [4, 5, 11, 12, 13] fun K hK => ?_; (repeat' ((refine al_r rfl fun K' hK' => ?_); (repeat (simp only [go_sem, simprocAttr, hget, hnn, hi2, hnx, Int.toNat_natCast])); ((refine hK' _ _ ?_) <;> clear hK' K'))); all_goals (refine al_nil ?_; (simp only [go_sem, simprocAttr, hget, hnn, hi2, hnx, Int.toNat_natCast]); refine hK _ ?_; clear hK K))
    refine ⟨_, ?_, i + 1, hi2, rfl, ?_⟩
    · omega
    · rw [hacc]

  · have hie : i = args.length := by simp at hc; omega
    subst hie
    rw [List.take_length]
    refine awp_exit ?_
    clear hK
    refine hK _ ?_; clear hK K
    (refine awp_reg_seq [2, 3] fun K hK => ?_; (repeat' ((refine al_r rfl fun K' hK' => ?_); (repeat (simp only [go_sem, simprocAttr])); ((refine hK' _ _ ?_) <;> clear hK' K'))); all_goals (refine al_nil ?_; (simp only [go_sem, simprocAttr]); refine hK _ ?_; clear hK K))
    all_goals (refine awp_ret ?_; (refine hR _ _ (.inl rfl) rfl ?_); (simp only [go_sem, simprocAttr, *, Bool.and_true, Bool.and_false, Bool.true_and, Bool.false_and, Bool.or_true, Bool.true_or, Bool.or_false, Bool.false_or, Bool.not_true, Bool.not_false, Bool.false_eq_true]; done))


theorem flatP (f : Nat) (k n : Int) (text : ByteArray) (args : List (List PV)) (h : shapeOk Try.prog f 38 [.lit (.int .i64 k), .lit (.int .i64 n), .lit (.string text), .sl args]) : ∃ b, ACallP Try.prog 22 [valD k n text args] (bD b) := by
  obtain ⟨d, m, hd⟩ := deepP f _ h
  simp only [List.map_cons, List.map_nil] at hd
  refine ⟨decide (d ≤ 60) && decide (m ≤ 500), ?_⟩
  refine acallp_fn [2] Try.func22 rfl rfl Try.ntmps22 (by simp) fun R hR => ?_
  (refine awp_reg_seq [1] fun K hK => ?_; (repeat' ((refine al_r rfl fun K' hK' => ?_); (repeat (simp only [go_sem, simprocAttr])); ((refine hK' _ _ ?_) <;> clear hK' K'))); all_goals (refine al_nil ?_; (simp only [go_sem, simprocAttr]); refine hK _ ?_; clear hK K))
  (refine awp_frz [1] [] (by decide) (by (simp; done)) ?_; simp only [go_sem, simprocAttr])
  (refine awp_reg_seq [3, 4] fun K hK => ?_; (repeat' ((refine al_r rfl fun K' hK' => ?_); (repeat (simp only [go_sem, simprocAttr])); (first | ((refine hK' _ _ ?_) <;> clear hK' K') | ((show AC _ _ (D.fn 24 _) _ _); refine acall_p (f := 24) (e := rfl) (hr := rfl) (k := hK' _ _ ?_) (hc := Try.call24) (h := hd); clear hK' K')))); all_goals (refine al_nil ?_; (simp only [go_sem, simprocAttr]); refine hK _ ?_; clear hK K))
  (refine awp_reg_tov [2] [(2, bD (decide (d ≤ 60) && decide (m ≤ 500)))] (h := ?_) (k := ?_); · ((repeat' (first | ((first | refine al_r rfl fun K' hK' => ?_ | refine al_t rfl rfl fun K' hK' => ?_); (repeat (simp only [go_sem, simprocAttr])); ((refine hK' _ _ ?_) <;> clear hK' K')) | refine al_e rfl rfl ?_ | ((fail_if_success (refine al_t rfl rfl fun K' hK' => ?_)); refine al_s _ rfl rfl rfl (fun hb => ?_) (fun hb => ?_)))); all_goals (refine al_nil ?_; simp only [go_sem, simprocAttr, *, Bool.and_true, Bool.and_false, Bool.true_and, Bool.false_and, Bool.or_true, Bool.true_or, Bool.or_false, Bool.false_or, Bool.not_true, Bool.not_false, Bool.false_eq_true]))); intro K hK; (simp only [go_sem, simprocAttr]); refine hK _ ?_; clear hK K
  all_goals (refine awp_ret ?_; (refine hR _ _ (.inl rfl) rfl ?_); (simp only [go_sem, simprocAttr, *, Bool.and_true, Bool.and_false, Bool.true_and, Bool.false_and, Bool.or_true, Bool.true_or, Bool.or_false, Bool.false_or, Bool.not_true, Bool.not_false, Bool.false_eq_true]; done))

end Go.Proofs.Ytagphggcdmjlpaa.P

/- What the function of the statement HeapWhole answers. -/
namespace Go.Proofs.Ytagphggcdmjlpaa.P
open Go.Ab Go.Proofs.Ytagphggcdmjlpaa.T

abbrev irow (n : Int) : List PV := [.lit (.int .i64 n)]
abbrev ints (ns : List Int) : D := .p (.sl (ns.map irow))


theorem indexE (ls : List Int) (hlen : ls.length ≤ maxLen) (f : FuncId) (caps : List D) (p : Int → Bool) (obs : List Ob) (ids : List Nat) (hub : ∀ o, o ∈ obs → o ≠ .unborn) (hd : ids.Nodup) (hp : ∀ k, k < obs.length → ids[k]? = some k)
    (hcap : caps.map (D.map (ren1 ids)) = caps) (hob : newObs obs ids = obs) (hm : merge obs ids obs = obs) (hlt : ∀ i, i ∈ ids → i < obs.length) (hl : ids.length ≤ obs.length)
    (hcf : ∀ args w, (callFunc f args).run Try.prog w = .ok (.enter f args) w) (h : ∀ n, n ∈ ls → ACallO Try.prog f (iD n :: caps) obs (bD (p n))) :
    ACallO Try.prog 79 [ints ls, .fn f caps] obs (iD (firstAt p ls)) := by
  refine acallo_fn [4] ids Try.func79 rfl rfl Try.ntmps79 (by simp) hub hd hp fun R hR => ?_
  (refine awp_reg_seq [0, 1] fun K hK => ?_; (repeat' ((refine al_r rfl fun K' hK' => ?_); (repeat (simp only [go_sem, simprocAttr, List.length_map])); ((refine hK' _ _ ?_) <;> clear hK' K'))); all_goals (refine al_nil ?_; (simp only [go_sem, simprocAttr, List.length_map]); refine hK _ ?_; clear hK K))
  refine awp_seq_k fun K hK => ?_
  (refine awp_reg_seq [0, 1, 7, 8] fun K hK => ?_; (repeat' ((refine al_r rfl fun K' hK' => ?_); (repeat (simp only [go_sem, simprocAttr, List.length_map])); ((first | refine hK' _ _ ?_ | refine ⟨?_, hK' _ _ ?_⟩) <;> clear hK' K' <;> (first | (show alist _ _ _ _ _ _; skip) | (intro s hs; cases hs; done))))); all_goals (refine al_nil ?_; (simp only [go_sem, simprocAttr, List.length_map]); refine hK _ ?_; clear hK K))
  refine awp_block ?_
  refine awp_loop (fun m s => ∃ i : Nat, i ≤ ls.length ∧ m = ls.length - i ∧ (∀ j, j < i → ∀ y, ls[j]? = some y → p y = false) ∧ s = ⟨ofL [(0, ints ls), (1, .fn f caps), (7, iD ls.length), (8, iD i)], obs, obs.length⟩) ⟨_, 0, Nat.zero_le _, rfl, fun j hj => absurd hj (by omega), rfl⟩ ?_
  rintro m s ⟨i, hi, rfl, hbefore, rfl⟩
  (refine awp_reg_seq [0, 1, 7, 8, 9] fun K hK => ?_; (repeat' ((refine al_r rfl fun K' hK' => ?_); (repeat (simp only [go_sem, simprocAttr, List.length_map])); ((refine hK' _ _ ?_) <;> clear hK' K'))); all_goals (refine al_nil ?_; (simp only [go_sem, simprocAttr, List.length_map]); refine hK _ ?_; clear hK K))
  refine awp_seq_k fun K hK => ?_
  refine awp_if (decide ((i : Int) < ls.length)) rfl (fun hc => ?_) (fun hc => ?_)
  · refine awp_skip ?_
    refine hK _ ?_; clear hK K
    have hi2 : i < ls.length := by simpa using hc
    obtain ⟨n, hget⟩ : ∃ n, ls[i]? = some n := ⟨_, List.getElem?_eq_getElem hi2⟩
    have hnn : (0 : Int) ≤ (i : Int) := Int.natCast_nonneg i

    refine awp_seq_k fun K hK => ?_
    refine awp_block ?_
    (refine awp_reg_seq [0, 1, 5, 7, 8] fun K hK => ?_; (repeat' ((refine al_r rfl fun K' hK' => ?_); (repeat (simp only [go_sem, simprocAttr, hget, hnn, List.getElem?_map, Int.toNat_natCast, Option.map_some, List.length_map])); ((refine hK' _ _ ?_) <;> clear hK' K'))); all_goals (refine al_nil ?_; (simp only [go_sem, simprocAttr, hget, hnn, List.getElem?_map, Int.toNat_natCast, Option.map_some, List.length_map]); refine hK _ ?_; clear hK K))
    refine awp_reg_seq [0, 1, 5, 7, 8, 16] fun K hK => ?_
    repeat' ((refine al_r rfl fun K' hK' => ?_); (repeat (simp only [go_sem, simprocAttr, hget, hnn, List.getElem?_map, Int.toNat_natCast, Option.map_some, List.length_map])); ((refine hK' _ _ ?_) <;> clear hK' K'))
    · refine al_run rfl rfl (by decide) fun K' hK' => ?_
      simp only [go_sem, simprocAttr, hget, hnn, List.getElem?_map, Int.toNat_natCast, Option.map_some, List.length_map]
      refine acall_o ids hcf (h n (List.mem_of_getElem? hget)) (by simpa [D.map, D.mapL, ren1] using hcap) hob hm hd hlt hl rfl (hK' _ _ ?_)
      clear hK' K'
      (refine al_nil ?_; (simp only [go_sem, simprocAttr, hget, hnn, List.getElem?_map, Int.toNat_natCast, Option.map_some, List.length_map]); refine hK _ ?_; clear hK K)
      refine awp_if (p n) rfl (fun hc => ?_) (fun hc => ?_)
      · (refine awp_reg_seq [4] fun K hK => ?_; (repeat' ((refine al_r rfl fun K' hK' => ?_); (repeat (simp only [go_sem, simprocAttr, hget, hnn, List.getElem?_map, Int.toNat_natCast, Option.map_some, List.length_map])); ((refine hK' _ _ ?_) <;> clear hK' K'))); all_goals (refine al_nil ?_; (simp only [go_sem, simprocAttr, hget, hnn, List.getElem?_map, Int.toNat_natCast, Option.map_some, List.length_map]); refine hK _ ?_; clear hK K))
        refine awp_ret ?_; (refine hR _ _ (.inl rfl) rfl ?_ ?_)
        · simp only [go_sem, simprocAttr, hget, hnn, List.getElem?_map, Int.toNat_natCast, Option.map_some, List.length_map]
          rw [firstAt_at hbefore hget hc]
        · exact hob
      · have hpn := hc
        refine awp_skip ?_
        refine hK _ ?_; clear hK K
        (refine awp_reg_end [0, 1, 7, 8] fun K hK => ?_; (repeat' ((refine al_r rfl fun K' hK' => ?_); (repeat (simp only [go_sem, simprocAttr, hget, hnn, List.getElem?_map, Int.toNat_natCast, Option.map_some, List.length_map])); ((refine hK' _ _ ?_) <;> clear hK' K'))); all_goals (refine al_nil ?_; (simp only [go_sem, simprocAttr, hget, hnn, List.getElem?_map, Int.toNat_natCast, Option.map_some, List.length_map]); refine hK _ ?_; clear hK K))
        refine ⟨_, ?_, i + 1, hi2, rfl, ?_, ?_⟩
        · omega
        · intro j hj y hy
          by_cases e : j = i
          · subst e; rw [hget] at hy; cases hy; exact hpn
          · exact hbefore j (by omega) y hy
        · rw [wrap_next hi2 hlen]

  · refine awp_exit ?_
    clear hK
    refine hK _ ?_; clear hK K
    have hi2 : i = ls.length := by simp at hc; omega
    (refine awp_reg_seq [4] fun K hK => ?_; (repeat' ((refine al_r rfl fun K' hK' => ?_); (repeat (simp only [go_sem, simprocAttr, List.length_map])); ((refine hK' _ _ ?_) <;> clear hK' K'))); all_goals (refine al_nil ?_; (simp only [go_sem, simprocAttr, List.length_map]); refine hK _ ?_; clear hK K))
    refine awp_ret ?_; (refine hR _ _ (.inl rfl) rfl ?_ ?_)
    · simp only [go_sem, simprocAttr, List.length_map]
      rw [firstAt_none fun j y hy => hbefore j (by
        rcases Nat.lt_or_ge j ls.length with h' | h'
        · omega
        · simp [List.getElem?_eq_none h'] at hy) y hy]
    · exact hob




theorem badE (e : Int) : ACallP Try.prog 55 [iD e] (bD (e != 0)) := by
  refine acallp_fn [2] Try.func55 rfl rfl Try.ntmps55 (by simp) fun R hR => ?_
  (refine awp_reg_seq [0] fun K hK => ?_; (repeat' ((refine al_r rfl fun K' hK' => ?_); (repeat (simp only [go_sem, simprocAttr])); ((refine hK' _ _ ?_) <;> clear hK' K'))); all_goals (refine al_nil ?_; (simp only [go_sem, simprocAttr]); refine hK _ ?_; clear hK K))
  (refine awp_reg_seq [2] fun K hK => ?_; (repeat' ((refine al_r rfl fun K' hK' => ?_); (repeat (simp only [go_sem, simprocAttr])); ((refine hK' _ _ ?_) <;> clear hK' K'))); all_goals (refine al_nil ?_; (simp only [go_sem, simprocAttr]); refine hK _ ?_; clear hK K))
  all_goals (refine awp_ret ?_; (refine hR _ _ (.inl rfl) rfl ?_); (simp only [go_sem, simprocAttr, *, Bool.and_true, Bool.and_false, Bool.true_and, Bool.false_and, Bool.or_true, Bool.true_or, Bool.or_false, Bool.false_or, Bool.not_true, Bool.not_false, Bool.false_eq_true]; done))


theorem anyE (ns : List Int) (hlen : ns.length ≤ maxLen) : ACallP Try.prog 54 [ints ns, .fn 55 []] (bD (ns.any fun e => e != 0)) := by
  have hix := (indexE ns hlen 55 [] (fun e => e != 0) [] [] (by simp) (by simp) (by simp) rfl rfl rfl (by simp) (by simp) Try.call55 fun n _ => (badE n).o).p
  have hn := firstAt_nonneg (p := fun e : Int => e != 0) (l := ns)
  rw [← hn]
  refine acallp_fn [4] Try.func54 rfl rfl Try.ntmps54 (by simp) fun R hR => ?_
  (refine awp_reg_seq [0, 1] fun K hK => ?_; (repeat' ((refine al_r rfl fun K' hK' => ?_); (repeat (simp only [go_sem, simprocAttr])); ((refine hK' _ _ ?_) <;> clear hK' K'))); all_goals (refine al_nil ?_; (simp only [go_sem, simprocAttr]); refine hK _ ?_; clear hK K))
  (refine awp_reg_seq [4] fun K hK => ?_; (repeat' ((refine al_r rfl fun K' hK' => ?_); (repeat (simp only [go_sem, simprocAttr])); (first | ((refine hK' _ _ ?_) <;> clear hK' K') | ((show AC _ _ (D.fn 79 _) _ _); refine acall_p (f := 79) (e := rfl) (hr := rfl) (k := hK' _ _ ?_) (hc := Try.call79) (h := hix); clear hK' K')))); all_goals (refine al_nil ?_; (simp only [go_sem, simprocAttr]); refine hK _ ?_; clear hK K))
  all_goals (refine awp_ret ?_; (refine hR _ _ (.inl rfl) rfl ?_); (simp only [go_sem, simprocAttr, *, Bool.and_true, Bool.and_false, Bool.true_and, Bool.false_and, Bool.or_true, Bool.true_or, Bool.or_false, Bool.false_or, Bool.not_true, Bool.not_false, Bool.false_eq_true]; done))


theorem goodE (ns : List Int) (hlen : ns.length ≤ maxLen) : ACallP Try.prog 20 [ints ns] (bD (!(ns.any fun e => e != 0))) := by
  have han := anyE ns hlen
  refine acallp_fn [2] Try.func20 rfl rfl Try.ntmps20 (by simp) fun R hR => ?_
  (refine awp_reg_seq [0] fun K hK => ?_; (repeat' ((refine al_r rfl fun K' hK' => ?_); (repeat (simp only [go_sem, simprocAttr])); ((refine hK' _ _ ?_) <;> clear hK' K'))); all_goals (refine al_nil ?_; (simp only [go_sem, simprocAttr]); refine hK _ ?_; clear hK K))
  (refine awp_reg_seq [2] fun K hK => ?_; (repeat' ((refine al_r rfl fun K' hK' => ?_); (repeat (simp only [go_sem, simprocAttr])); (first | ((refine hK' _ _ ?_) <;> clear hK' K') | ((show AC _ _ (D.fn 54 _) _ _); refine acall_p (f := 54) (e := rfl) (hr := rfl) (k := hK' _ _ ?_) (hc := Try.call54) (h := han); clear hK' K')))); all_goals (refine al_nil ?_; (simp only [go_sem, simprocAttr]); refine hK _ ?_; clear hK K))
  all_goals (refine awp_ret ?_; (refine hR _ _ (.inl rfl) rfl ?_); (simp only [go_sem, simprocAttr, *, Bool.and_true, Bool.and_false, Bool.true_and, Bool.false_and, Bool.or_true, Bool.true_or, Bool.or_false, Bool.false_or, Bool.not_true, Bool.not_false, Bool.false_eq_true]; done))

theorem good00 : ACallP Try.prog 20 [.p (.sl [[.lit (.int .i64 0)], [.lit (.int .i64 0)]])] (bD true) := goodE [0, 0] (by simp [maxLen])


theorem equalU (a b : List Int) (ha : a.length ≤ maxLen) : ACallP Try.prog 21 [words a, words b] (bD (listEq eqI a b)) := by
  refine acallp_fn [4] Try.func21 rfl rfl Try.ntmps21 (by simp) fun R hR => ?_
  (refine awp_reg_seq [0, 1] fun K hK => ?_; (repeat' ((refine al_r rfl fun K' hK' => ?_); (repeat (simp only [go_sem, simprocAttr, List.length_map])); ((refine hK' _ _ ?_) <;> clear hK' K'))); all_goals (refine al_nil ?_; (simp only [go_sem, simprocAttr, List.length_map]); refine hK _ ?_; clear hK K))
  refine awp_seq_k fun K hK => ?_
  (refine awp_reg_seq [0, 1, 10] fun K hK => ?_; (repeat' ((refine al_r rfl fun K' hK' => ?_); (repeat (simp only [go_sem, simprocAttr, List.length_map])); ((first | refine hK' _ _ ?_ | refine ⟨?_, hK' _ _ ?_⟩) <;> clear hK' K' <;> (first | (show alist _ _ _ _ _ _; skip) | (intro s hs; cases hs; done))))); all_goals (refine al_nil ?_; (simp only [go_sem, simprocAttr, List.length_map]); refine hK _ ?_; clear hK K))
  refine awp_if (_) rfl (fun hc => ?_) (fun hc => ?_)
  · have hl : a.length ≠ b.length := by
      intro e; rw [e] at hc; simp at hc
    rw [listEq_len hl] at hR
    (refine awp_reg_seq [4] fun K hK => ?_; (repeat' ((refine al_r rfl fun K' hK' => ?_); (repeat (simp only [go_sem, simprocAttr, List.length_map])); ((refine hK' _ _ ?_) <;> clear hK' K'))); all_goals (refine al_nil ?_; (simp only [go_sem, simprocAttr, List.length_map]); refine hK _ ?_; clear hK K))
    refine awp_ret ?_; (refine hR _ _ (.inl rfl) rfl ?_)
    simp only [go_sem, simprocAttr, List.length_map]
  · have hl : a.length = b.length := by
      have : ((a.length : Int) != b.length) = false := hc
      simp at this; omega
    refine awp_skip ?_
    refine hK _ ?_; clear hK K
    refine awp_seq_k fun K hK => ?_
    (refine awp_reg_seq [0, 1, 12, 13] fun K hK => ?_; (repeat' ((refine al_r rfl fun K' hK' => ?_); (repeat (simp only [go_sem, simprocAttr, List.length_map])); ((first | refine hK' _ _ ?_ | refine ⟨?_, hK' _ _ ?_⟩) <;> clear hK' K' <;> (first | (show alist _ _ _ _ _ _; skip) | (intro s hs; cases hs; done))))); all_goals (refine al_nil ?_; (simp only [go_sem, simprocAttr, List.length_map]); refine hK _ ?_; clear hK K))
    refine awp_block ?_
    refine awp_loop (fun m s => ∃ i : Nat, i ≤ a.length ∧ m = a.length - i ∧ (∀ (j : Nat) x y, j < i → a[j]? = some x → b[j]? = some y → eqI x y = true) ∧ s = ⟨ofL [(0, words a), (1, words b), (12, iD a.length), (13, iD i)], [], 0⟩) ⟨_, 0, Nat.zero_le _, rfl, fun j _ _ hj => absurd hj (by omega), rfl⟩ ?_
    rintro m s ⟨i, hi, rfl, hbefore, rfl⟩
    (refine awp_reg_seq [0, 1, 12, 13, 14] fun K hK => ?_; (repeat' ((refine al_r rfl fun K' hK' => ?_); (repeat (simp only [go_sem, simprocAttr, List.length_map])); ((refine hK' _ _ ?_) <;> clear hK' K'))); all_goals (refine al_nil ?_; (simp only [go_sem, simprocAttr, List.length_map]); refine hK _ ?_; clear hK K))
    refine awp_seq_k fun K hK => ?_
    refine awp_if (decide ((i : Int) < a.length)) rfl (fun hc => ?_) (fun hc => ?_)
    · refine awp_skip ?_
      refine hK _ ?_; clear hK K
      have hi2 : i < a.length := by simpa using hc
      obtain ⟨x, hx⟩ := get_of_lt hi2
      obtain ⟨y, hy⟩ := get_of_lt (l := b) (i := i) (by omega)
      have hnn : (0 : Int) ≤ (i : Int) := Int.natCast_nonneg i

      refine awp_seq_k fun K hK => ?_
      refine awp_block ?_
      (refine awp_reg_seq [0, 1, 5, 12, 13] fun K hK => ?_; (repeat' ((refine al_r rfl fun K' hK' => ?_); (repeat (simp only [go_sem, simprocAttr, hx, hy, hnn, List.length_map, List.getElem?_map, Int.toNat_natCast, Option.map_some, List.length_map])); ((refine hK' _ _ ?_) <;> clear hK' K'))); all_goals (refine al_nil ?_; (simp only [go_sem, simprocAttr, hx, hy, hnn, List.length_map, List.getElem?_map, Int.toNat_natCast, Option.map_some, List.length_map]); refine hK _ ?_; clear hK K))
      refine awp_draw_seq (by kernel_rfl) [0, 1, 12, 13, 24] fun K hK => ?_
      ((refine ah_r 0 rfl (by kernel_rfl) rfl fun K' hK' => ?_); (simp only [go_sem, simprocAttr, hx, hy, hnn, List.length_map, List.getElem?_map, Int.toNat_natCast, Option.map_some, List.length_map]); ((refine hK' _ ?_); clear hK' K'))
      ((refine ah_r 1 rfl (by kernel_rfl) rfl fun K' hK' => ?_); (simp only [go_sem, simprocAttr, hx, hy, hnn, List.length_map, List.getElem?_map, Int.toNat_natCast, Option.map_some, List.length_map]); ((refine hK' _ ?_); clear hK' K'))
      ((refine ah_r 2 rfl (by kernel_rfl) rfl fun K' hK' => ?_); (simp only [go_sem, simprocAttr, hx, hy, hnn, List.length_map, List.getElem?_map, Int.toNat_natCast, Option.map_some, List.length_map]); ((refine hK' _ ?_); clear hK' K'))
      ((refine ah_r 3 rfl (by kernel_rfl) rfl fun K' hK' => ?_); (simp only [go_sem, simprocAttr, hx, hy, hnn, List.length_map, List.getElem?_map, Int.toNat_natCast, Option.map_some, List.length_map]); ((refine hK' _ ?_); clear hK' K'))
      ((refine ah_r 4 rfl (by kernel_rfl) rfl fun K' hK' => ?_); (simp only [go_sem, simprocAttr, hx, hy, hnn, List.length_map, List.getElem?_map, Int.toNat_natCast, Option.map_some, List.length_map]); ((refine hK' _ ?_); clear hK' K'))
      ((refine ah_r 5 rfl (by kernel_rfl) rfl fun K' hK' => ?_); (simp only [go_sem, simprocAttr, hx, hy, hnn, List.length_map, List.getElem?_map, Int.toNat_natCast, Option.map_some, List.length_map]); ((refine hK' _ ?_); clear hK' K'))
      ((refine ah_r 6 rfl (by kernel_rfl) rfl fun K' hK' => ?_); (simp only [go_sem, simprocAttr, hx, hy, hnn, List.length_map, List.getElem?_map, Int.toNat_natCast, Option.map_some, List.length_map]); ((refine hK' _ ?_); clear hK' K'))
      ((refine ah_r 7 rfl (by kernel_rfl) rfl fun K' hK' => ?_); (simp only [go_sem, simprocAttr, hx, hy, hnn, List.length_map, List.getElem?_map, Int.toNat_natCast, Option.map_some, List.length_map]); ((refine hK' _ ?_); clear hK' K'))
      ((refine ah_r 8 rfl (by kernel_rfl) rfl fun K' hK' => ?_); (simp only [go_sem, simprocAttr, hx, hy, hnn, List.length_map, List.getElem?_map, Int.toNat_natCast, Option.map_some, List.length_map]); ((refine hK' _ ?_); clear hK' K'))
      (refine ah_done (by kernel_rfl) ?_; (simp only [go_sem, simprocAttr, hx, hy, hnn, List.length_map, List.getElem?_map, Int.toNat_natCast, Option.map_some, List.length_map]); refine hK _ ?_; clear hK K)
      refine awp_if (!(eqI x y)) rfl (fun hc => ?_) (fun hc => ?_)
      · have he : eqI x y = false := by simpa using hc
        rw [listEq_not hx hy he] at hR
        (refine awp_reg_seq [4] fun K hK => ?_; (repeat' ((refine al_r rfl fun K' hK' => ?_); (repeat (simp only [go_sem, simprocAttr, hx, hy, hnn, List.length_map, List.getElem?_map, Int.toNat_natCast, Option.map_some, List.length_map])); ((refine hK' _ _ ?_) <;> clear hK' K'))); all_goals (refine al_nil ?_; (simp only [go_sem, simprocAttr, hx, hy, hnn, List.length_map, List.getElem?_map, Int.toNat_natCast, Option.map_some, List.length_map]); refine hK _ ?_; clear hK K))
        refine awp_ret ?_; (refine hR _ _ (.inl rfl) rfl ?_)
        simp only [go_sem, simprocAttr, hx, hy, hnn, List.length_map, List.getElem?_map, Int.toNat_natCast, Option.map_some, List.length_map]
      · have he : eqI x y = true := by simpa using hc
        refine awp_skip ?_
        refine hK _ ?_; clear hK K
        (refine awp_reg_end [0, 1, 12, 13] fun K hK => ?_; (repeat' ((refine al_r rfl fun K' hK' => ?_); (repeat (simp only [go_sem, simprocAttr, hx, hy, hnn, List.length_map, List.getElem?_map, Int.toNat_natCast, Option.map_some, List.length_map])); ((refine hK' _ _ ?_) <;> clear hK' K'))); all_goals (refine al_nil ?_; (simp only [go_sem, simprocAttr, hx, hy, hnn, List.length_map, List.getElem?_map, Int.toNat_natCast, Option.map_some, List.length_map]); refine hK _ ?_; clear hK K))
        refine ⟨_, ?_, i + 1, hi2, rfl, ?_, ?_⟩
        · omega
        · intro j u v hj hu hv
          by_cases e : j = i
          · subst e; rw [hx] at hu; rw [hy] at hv; cases hu; cases hv; exact he
          · exact hbefore j u v (by omega) hu hv
        · rw [wrap_next hi2 ha]

    · refine awp_exit ?_
      clear hK
      refine hK _ ?_; clear hK K
      have hi2 : i = a.length := by simp at hc; omega
      have hfin : listEq eqI a b = true := listEq_of hl fun j x y hx hy => hbefore j x y (by have := lt_of_get hx; omega) hx hy
      rw [hfin] at hR
      (refine awp_reg_seq [4] fun K hK => ?_; (repeat' ((refine al_r rfl fun K' hK' => ?_); (repeat (simp only [go_sem, simprocAttr, List.length_map])); ((refine hK' _ _ ?_) <;> clear hK' K'))); all_goals (refine al_nil ?_; (simp only [go_sem, simprocAttr, List.length_map]); refine hK _ ?_; clear hK K))
      refine awp_ret ?_; (refine hR _ _ (.inl rfl) rfl ?_)
      simp only [go_sem, simprocAttr, List.length_map]



theorem equalU_same (l : List Int) (h : l.length ≤ maxLen) : ACallP Try.prog 21 [words l, words l] (bD true) := by
  have heq := equalU l l h
  rw [(listEq_iff eqI_iff).2 rfl] at heq
  exact heq


theorem wholeBad (h : List Int) (o : Obj) (k n : Int) (text : ByteArray) (args : List (List PV)) (e : Int) (he : (e != 0) = true) (hob : ACallP Try.prog 15 [words h] (.tup [objs [], iD e])) : ACallP Try.prog 4 [words h, objD o, valD k n text args] (bD true) := by
  refine acallp_fn [6] Try.func4 rfl rfl Try.ntmps4 (by simp) fun R hR => ?_
  (refine awp_reg_seq [0, 4, 5] fun K hK => ?_; (repeat' ((refine al_r rfl fun K' hK' => ?_); (repeat (simp only [go_sem, simprocAttr, List.length_map, List.length_nil, he, beq_self_eq_true])); ((refine hK' _ _ ?_) <;> clear hK' K'))); all_goals (refine al_nil ?_; (simp only [go_sem, simprocAttr, List.length_map, List.length_nil, he, beq_self_eq_true]); refine hK _ ?_; clear hK K))
  (refine awp_frz [0, 4, 5] [] (by decide) (by (simp; done)) ?_; simp only [go_sem, simprocAttr, List.length_map, List.length_nil, he, beq_self_eq_true])
  (refine awp_reg_seq [0, 4, 5, 7, 8] fun K hK => ?_; (repeat' ((refine al_r rfl fun K' hK' => ?_); (repeat (simp only [go_sem, simprocAttr, List.length_map, List.length_nil, he, beq_self_eq_true])); (first | ((refine hK' _ _ ?_) <;> clear hK' K') | ((show AC _ _ (D.fn 15 _) _ _); refine acall_p (f := 15) (e := rfl) (hr := rfl) (k := hK' _ _ ?_) (hc := Try.call15) (h := hob); clear hK' K')))); all_goals (refine al_nil ?_; (simp only [go_sem, simprocAttr, List.length_map, List.length_nil, he, beq_self_eq_true]); refine hK _ ?_; clear hK K))
  refine awp_seq_k fun K hK => ?_
  (refine awp_reg_tov [0, 4, 5, 7, 31] [(7, objs []), (31, bD true)] (h := ?_) (k := ?_); · ((repeat' ((first | refine al_r rfl fun K' hK' => ?_ | refine al_t rfl rfl fun K' hK' => ?_); (repeat (simp only [go_sem, simprocAttr, List.length_map, List.length_nil, he, beq_self_eq_true])); (first | ((refine hK' _ _ ?_) <;> clear hK' K') | ((show AC _ _ (D.fn 16 _) _ _); refine acall_p (f := 16) (e := rfl) (hr := rfl) (k := hK' _ _ ?_) (hc := Try.call16) (h := heaps); clear hK' K')))); all_goals (refine al_nil ?_; simp only [go_sem, simprocAttr, List.length_map, List.length_nil, he, beq_self_eq_true, *, Bool.and_true, Bool.and_false, Bool.true_and, Bool.false_and, Bool.or_true, Bool.true_or, Bool.or_false, Bool.false_or, Bool.not_true, Bool.not_false, Bool.false_eq_true]))); intro K hK; (simp only [go_sem, simprocAttr, List.length_map, List.length_nil, he, beq_self_eq_true]); refine hK _ ?_; clear hK K
  refine awp_if (_) rfl (fun hc => ?_) (fun hc => ?_)

  · (refine awp_reg_tov [6] [(6, bD true)] (h := ?_) (k := ?_); · ((repeat' ((first | refine al_r rfl fun K' hK' => ?_ | refine al_t rfl rfl fun K' hK' => ?_); (repeat (simp only [go_sem, simprocAttr, List.length_map, List.length_nil, List.map_nil, cast0, beq_self_eq_true])); (first | ((first | refine hK' _ _ ?_ | refine ⟨?_, hK' _ _ ?_⟩) <;> clear hK' K' <;> (first | (show alist _ _ _ _ _ _; skip) | (intro s hs; cases hs; done))) | ((show AC _ _ (D.fn 16 _) _ _); refine acall_p (f := 16) (e := rfl) (hr := rfl) (k := hK' _ _ ?_) (hc := Try.call16) (h := heaps); clear hK' K')))); all_goals (refine al_nil ?_; simp only [go_sem, simprocAttr, List.length_map, List.length_nil, List.map_nil, cast0, beq_self_eq_true, *, Bool.and_true, Bool.and_false, Bool.true_and, Bool.false_and, Bool.or_true, Bool.true_or, Bool.or_false, Bool.false_or, Bool.not_true, Bool.not_false, Bool.false_eq_true]))); intro K hK; (simp only [go_sem, simprocAttr, List.length_map, List.length_nil, List.map_nil, cast0, beq_self_eq_true]); refine hK _ ?_; clear hK K
    all_goals (refine awp_ret ?_; (refine hR _ _ (.inl rfl) rfl ?_); (simp only [go_sem, simprocAttr, List.length_map, List.length_nil, List.map_nil, cast0, beq_self_eq_true, *, Bool.and_true, Bool.and_false, Bool.true_and, Bool.false_and, Bool.or_true, Bool.true_or, Bool.or_false, Bool.false_or, Bool.not_true, Bool.not_false, Bool.false_eq_true]; done))
  · cases hc


theorem wholeGood (h g g2 : List Int) (l : List Obj) (o : Obj) (k n : Int) (text : ByteArray) (args : List (List PV)) (pa e3 w2 e2 : Int) (b : Bool) (hll : l.length ≤ 5000)
    (hob : ACallP Try.prog 15 [words h] (.tup [objs l, iD 0])) (hput : ACallP Try.prog 17 [words h, objD o] (.tup [words g, iD pa, iD e3]))
    (hg : e3 = 0 → o.parts.length ≤ 400 ∧ ∃ (m : List Obj) (a : Int), ACallP Try.prog 15 [words g] (.tup [objs m, iD 0]) ∧ m.length = l.length + 1 ∧ ACallP Try.prog 19 [words g, iD pa] (.tup [objD ⟨a, o.kind, o.num, o.text, o.parts⟩, iD 0]))
    (hfl : ACallP Try.prog 22 [valD k n text args] (bD b)) (hbu : ACallP Try.prog 23 [words h, valD k n text args] (.tup [words g2, wD w2, iD e2]))
    (hg2 : e2 = 0 → ∃ m : List Obj, ACallP Try.prog 15 [words g2] (.tup [objs m, iD 0]) ∧ l.length ≤ m.length) : ACallP Try.prog 4 [words h, objD o, valD k n text args] (bD true) := by
  refine acallp_fn [6] Try.func4 rfl rfl Try.ntmps4 (by simp) fun R hR => ?_
  (refine awp_reg_seq [0, 4, 5] fun K hK => ?_; (repeat' ((refine al_r rfl fun K' hK' => ?_); (repeat (simp only [go_sem, simprocAttr, List.length_map, bne_self_eq_false])); ((refine hK' _ _ ?_) <;> clear hK' K'))); all_goals (refine al_nil ?_; (simp only [go_sem, simprocAttr, List.length_map, bne_self_eq_false]); refine hK _ ?_; clear hK K))
  (refine awp_frz [0, 4, 5] [] (by decide) (by (simp; done)) ?_; simp only [go_sem, simprocAttr, List.length_map, bne_self_eq_false])
  (refine awp_reg_seq [0, 4, 5, 7, 8] fun K hK => ?_; (repeat' ((refine al_r rfl fun K' hK' => ?_); (repeat (simp only [go_sem, simprocAttr, List.length_map, bne_self_eq_false])); (first | ((refine hK' _ _ ?_) <;> clear hK' K') | ((show AC _ _ (D.fn 15 _) _ _); refine acall_p (f := 15) (e := rfl) (hr := rfl) (k := hK' _ _ ?_) (hc := Try.call15) (h := hob); clear hK' K')))); all_goals (refine al_nil ?_; (simp only [go_sem, simprocAttr, List.length_map, bne_self_eq_false]); refine hK _ ?_; clear hK K))
  refine awp_seq_k fun K hK => ?_
  (refine awp_reg_tov [0, 4, 5, 7, 31] [(0, words h), (7, objs l), (31, bD false)] (h := ?_) (k := ?_); · ((repeat' ((first | refine al_r rfl fun K' hK' => ?_ | refine al_t rfl rfl fun K' hK' => ?_); (repeat (simp only [go_sem, simprocAttr, List.length_map, bne_self_eq_false])); (first | ((refine hK' _ _ ?_) <;> clear hK' K') | ((show AC _ _ (D.fn 16 _) _ _); refine acall_p (f := 16) (e := rfl) (hr := rfl) (k := hK' _ _ ?_) (hc := Try.call16) (h := heaps); clear hK' K')))); all_goals (refine al_nil ?_; simp only [go_sem, simprocAttr, List.length_map, bne_self_eq_false, *, Bool.and_true, Bool.and_false, Bool.true_and, Bool.false_and, Bool.or_true, Bool.true_or, Bool.or_false, Bool.false_or, Bool.not_true, Bool.not_false, Bool.false_eq_true]))); intro K hK; (simp only [go_sem, simprocAttr, List.length_map, bne_self_eq_false]); refine hK _ ?_; clear hK K
  refine awp_if (_) rfl (fun hc => ?_) (fun hc => ?_)
  · cases hc
  · refine awp_skip ?_
    refine hK _ ?_; clear hK K
    refine awp_seq_kc fun K hK hcut => ?_
    have key : K ⟨ofL [(0, words h), (5, .rd [.lit (.int .i64 k), .lit (.int .i64 n), .lit (.string text), .sl args] 0), (7, objs l)], [], 0⟩ := by
      clear hcut
      refine hK _ ?_; clear hK K
      refine awp_seq_k fun K hK => ?_
      (refine awp_reg_seq [0, 5, 7, 102] fun K hK => ?_; (repeat' ((refine al_r rfl fun K' hK' => ?_); (repeat (simp only [go_sem, simprocAttr, List.length_map, bne_self_eq_false])); (first | ((refine hK' _ _ ?_) <;> clear hK' K') | ((show AC _ _ (D.fn 22 _) _ _); refine acall_p (f := 22) (e := rfl) (hr := rfl) (k := hK' _ _ ?_) (hc := Try.call22) (h := hfl); clear hK' K')))); all_goals (refine al_nil ?_; (simp only [go_sem, simprocAttr, List.length_map, bne_self_eq_false]); refine hK _ ?_; clear hK K))
      refine awp_if (!b) rfl (fun hc => ?_) (fun hc => ?_)
      · (refine awp_reg_seq [6] fun K hK => ?_; (repeat' ((refine al_r rfl fun K' hK' => ?_); (repeat (simp only [go_sem, simprocAttr, List.length_map, bne_self_eq_false])); ((refine hK' _ _ ?_) <;> clear hK' K'))); all_goals (refine al_nil ?_; (simp only [go_sem, simprocAttr, List.length_map, bne_self_eq_false]); refine hK _ ?_; clear hK K))
        all_goals (refine awp_ret ?_; (refine hR _ _ (.inl rfl) rfl ?_); (simp only [go_sem, simprocAttr, List.length_map, bne_self_eq_false, *, Bool.and_true, Bool.and_false, Bool.true_and, Bool.false_and, Bool.or_true, Bool.true_or, Bool.or_false, Bool.false_or, Bool.not_true, Bool.not_false, Bool.false_eq_true]; done))
      · refine awp_skip ?_
        refine hK _ ?_; clear hK K
        (refine awp_reg_seq [7, 16, 18] fun K hK => ?_; (repeat' ((refine al_r rfl fun K' hK' => ?_); (repeat (simp only [go_sem, simprocAttr, List.length_map, bne_self_eq_false])); (first | ((refine hK' _ _ ?_) <;> clear hK' K') | ((show AC _ _ (D.fn 23 _) _ _); refine acall_p (f := 23) (e := rfl) (hr := rfl) (k := hK' _ _ ?_) (hc := Try.call23) (h := hbu); clear hK' K')))); all_goals (refine al_nil ?_; (simp only [go_sem, simprocAttr, List.length_map, bne_self_eq_false]); refine hK _ ?_; clear hK K))
        refine awp_seq_k fun K hK => ?_
        (refine awp_reg_seq [7, 16, 111] fun K hK => ?_; (repeat' ((refine al_r rfl fun K' hK' => ?_); (repeat (simp only [go_sem, simprocAttr, List.length_map, bne_self_eq_false])); ((refine hK' _ _ ?_) <;> clear hK' K'))); all_goals (refine al_nil ?_; (simp only [go_sem, simprocAttr, List.length_map, bne_self_eq_false]); refine hK _ ?_; clear hK K))
        refine awp_if (e2 != 0) rfl (fun hc => ?_) (fun hc => ?_)
        · (refine awp_reg_seq [6] fun K hK => ?_; (repeat' ((refine al_r rfl fun K' hK' => ?_); (repeat (simp only [go_sem, simprocAttr, List.length_map, bne_self_eq_false])); ((refine hK' _ _ ?_) <;> clear hK' K'))); all_goals (refine al_nil ?_; (simp only [go_sem, simprocAttr, List.length_map, bne_self_eq_false]); refine hK _ ?_; clear hK K))
          all_goals (refine awp_ret ?_; (refine hR _ _ (.inl rfl) rfl ?_); (simp only [go_sem, simprocAttr, List.length_map, bne_self_eq_false, *, Bool.and_true, Bool.and_false, Bool.true_and, Bool.false_and, Bool.or_true, Bool.true_or, Bool.or_false, Bool.false_or, Bool.not_true, Bool.not_false, Bool.false_eq_true]; done))
        · obtain ⟨m2, hob2, hlm⟩ := hg2 (by simpa using hc)
          have hge : decide ((m2.length : Int) ≥ (l.length : Int)) = true := by simp; omega

          refine awp_skip ?_
          refine hK _ ?_; clear hK K
          (refine awp_reg_seq [7, 19, 20] fun K hK => ?_; (repeat' ((refine al_r rfl fun K' hK' => ?_); (repeat (simp only [go_sem, simprocAttr, List.length_map, hge, beq_self_eq_true])); (first | ((refine hK' _ _ ?_) <;> clear hK' K') | ((show AC _ _ (D.fn 15 _) _ _); refine acall_p (f := 15) (e := rfl) (hr := rfl) (k := hK' _ _ ?_) (hc := Try.call15) (h := hob2); clear hK' K')))); all_goals (refine al_nil ?_; (simp only [go_sem, simprocAttr, List.length_map, hge, beq_self_eq_true]); refine hK _ ?_; clear hK K))
          (refine awp_reg_tov [6] [(6, bD true)] (h := ?_) (k := ?_); · ((repeat' ((first | refine al_r rfl fun K' hK' => ?_ | refine al_t rfl rfl fun K' hK' => ?_); (repeat (simp only [go_sem, simprocAttr, List.length_map, hge, beq_self_eq_true])); ((first | refine hK' _ _ ?_ | refine ⟨?_, hK' _ _ ?_⟩) <;> clear hK' K' <;> (first | (show alist _ _ _ _ _ _; skip) | (intro s hs; cases hs; done))))); all_goals (refine al_nil ?_; simp only [go_sem, simprocAttr, List.length_map, hge, beq_self_eq_true, *, Bool.and_true, Bool.and_false, Bool.true_and, Bool.false_and, Bool.or_true, Bool.true_or, Bool.or_false, Bool.false_or, Bool.not_true, Bool.not_false, Bool.false_eq_true]))); intro K hK; (simp only [go_sem, simprocAttr, List.length_map, hge, beq_self_eq_true]); refine hK _ ?_; clear hK K
          all_goals (refine awp_ret ?_; (refine hR _ _ (.inl rfl) rfl ?_); (simp only [go_sem, simprocAttr, List.length_map, hge, beq_self_eq_true, *, Bool.and_true, Bool.and_false, Bool.true_and, Bool.false_and, Bool.or_true, Bool.true_or, Bool.or_false, Bool.false_or, Bool.not_true, Bool.not_false, Bool.false_eq_true]; done))

    (refine awp_reg_seq [0, 4, 5, 7, 9, 10, 11] fun K hK => ?_; (repeat' ((refine al_r rfl fun K' hK' => ?_); (repeat (simp only [go_sem, simprocAttr, List.length_map, bne_self_eq_false])); (first | ((refine hK' _ _ ?_) <;> clear hK' K') | ((show AC _ _ (D.fn 17 _) _ _); refine acall_p (f := 17) (e := rfl) (hr := rfl) (k := hK' _ _ ?_) (hc := Try.call17) (h := hput); clear hK' K')))); all_goals (refine al_nil ?_; (simp only [go_sem, simprocAttr, List.length_map, bne_self_eq_false]); refine hK _ ?_; clear hK K))
    (refine awp_reg_seq [0, 4, 5, 7, 9, 10, 46] fun K hK => ?_; (repeat' ((refine al_r rfl fun K' hK' => ?_); (repeat (simp only [go_sem, simprocAttr, List.length_map, bne_self_eq_false])); ((refine hK' _ _ ?_) <;> clear hK' K'))); all_goals (refine al_nil ?_; (simp only [go_sem, simprocAttr, List.length_map, bne_self_eq_false]); refine hK _ ?_; clear hK K))
    refine awp_if (e3 == 0) rfl (fun hc => ?_) (fun hc => ?_)
    · obtain ⟨hp4, m, a, hobg, hml, hatg⟩ := hg (by simpa using hc)
      have heq := equalU_same o.parts (by simp [maxLen]; omega)
      have hne : ((m.length : Int) != IntKind.i64.wrap ((l.length : Int) + 1)) = false := by
        rw [Go.Ab.wrap_small (by omega) (by omega), hml]; simp
      (refine awp_reg_seq [0, 4, 5, 7, 9, 10, 12, 13] fun K hK => ?_; (repeat' ((refine al_r rfl fun K' hK' => ?_); (repeat (simp only [go_sem, simprocAttr, List.length_map, bne_self_eq_false])); (first | ((refine hK' _ _ ?_) <;> clear hK' K') | ((show AC _ _ (D.fn 15 _) _ _); refine acall_p (f := 15) (e := rfl) (hr := rfl) (k := hK' _ _ ?_) (hc := Try.call15) (h := hobg); clear hK' K')))); all_goals (refine al_nil ?_; (simp only [go_sem, simprocAttr, List.length_map, bne_self_eq_false]); refine hK _ ?_; clear hK K))
      (refine awp_reg_seq [0, 4, 5, 7, 12, 13, 14, 15] fun K hK => ?_; (repeat' ((first | refine al_r rfl fun K' hK' => ?_ | refine al_d rfl fun K' hK' => ?_); (repeat (first | (simp only [go_sem, simprocAttr, List.length_map, bne_self_eq_false]) | refine AS.mk ?_)); (first | ((first | refine hK' _ _ ?_ | refine ⟨?_, hK' _ _ ?_⟩) <;> clear hK' K' <;> (first | (show alist _ _ _ _ _ _; skip) | (simp; done))) | ((show AC _ _ (D.fn 19 _) _ _); refine acall_p (f := 19) (e := rfl) (hr := rfl) (k := hK' _ _ ?_) (hc := Try.call19) (h := hatg); clear hK' K')))); all_goals (refine al_nil ?_; (simp only [go_sem, simprocAttr, List.length_map, bne_self_eq_false]); refine hK _ ?_; clear hK K))
      (refine awp_frz [0, 4, 5, 7, 12, 13, 14, 15] [] (by decide) (by (simp; done)) ?_; simp only [go_sem, simprocAttr, List.length_map, bne_self_eq_false])

      (refine awp_reg_tov [0, 5, 7, 99] [(0, words h), (7, objs l), (99, bD false)] (h := ?_) (k := ?_); · ((repeat' ((first | refine al_r rfl fun K' hK' => ?_ | refine al_t rfl rfl fun K' hK' => ?_); (repeat (simp only [go_sem, simprocAttr, List.length_map, bne_self_eq_false, beq_self_eq_true, hne])); (first | ((first | refine hK' _ _ ?_ | refine ⟨?_, hK' _ _ ?_⟩) <;> clear hK' K' <;> (first | (show alist _ _ _ _ _ _; skip) | (intro s hs; cases hs; done))) | ((show AC _ _ (D.fn 20 _) _ _); refine acall_w [] (by decide) (by simp) (f := 20) (e := rfl) (hr := fun _ => rfl) (k := hK' _ _ ?_) (hc := Try.call20) (h := good00); clear hK' K') | ((show AC _ _ (D.fn 21 _) _ _); refine acall_p (f := 21) (e := rfl) (hr := rfl) (k := hK' _ _ ?_) (hc := Try.call21) (h := heq); clear hK' K')))); all_goals (refine al_nil ?_; simp only [go_sem, simprocAttr, List.length_map, bne_self_eq_false, beq_self_eq_true, hne, *, Bool.and_true, Bool.and_false, Bool.true_and, Bool.false_and, Bool.or_true, Bool.true_or, Bool.or_false, Bool.false_or, Bool.not_true, Bool.not_false, Bool.false_eq_true]))); intro K hK; (simp only [go_sem, simprocAttr, List.length_map, bne_self_eq_false, beq_self_eq_true, hne]); refine hK _ ?_; clear hK K
      refine awp_if (_) rfl (fun hc => ?_) (fun hc => ?_)
      · cases hc
      · refine awp_skip ?_
        (refine hcut _ [0, 5, 7] [] (by decide) (by intro q hq; exact absurd hq (Nat.not_lt_zero q)) ?_; simp only [go_sem, simprocAttr, List.length_map, bne_self_eq_false, beq_self_eq_true, hne]; exact key)

    · refine awp_skip ?_
      (refine hcut _ [0, 5, 7] [] (by decide) (by intro q hq; exact absurd hq (Nat.not_lt_zero q)) ?_; simp only [go_sem, simprocAttr, List.length_map]; exact key)

theorem wrap_ok (x : Int) : NumOk (IntKind.i64.wrap x) := by
  simp only [IntKind.wrap, IntKind.bits, IntKind.signed]
  simp
  constructor <;> omega

theorem at_num (h : List Int) (a : Int) : NumOk (atS h a).1.num := by
  have z : NumOk z0.num := ⟨by decide, by decide⟩
  have hO : ∀ (n m : Nat) (o : Obj), NumOk o.num → NumOk (atO h n o m).1.num := fun n m o ho => by
    unfold atO
    split
    · exact z
    · exact ho
  unfold atS
  split
  · exact z
  split
  · exact z
  split
  · exact z
  unfold atR
  split
  · exact hO _ _ _ (wrap_ok _)
  · exact hO _ _ _ z

theorem objF_nums {h : List Int} : ∀ (f a : Nat) (acc : List Obj), (∀ o, o ∈ acc → NumOk o.num) → ∀ o, o ∈ (objF h f a acc).1 → NumOk o.num
  | 0, _, _, ha, o, ho => ha o ho
  | f + 1, a, acc, ha, o, ho => by
    unfold objF at ho
    split at ho
    · split at ho
      · cases ho
      · refine objF_nums f _ _ (fun x hx => ?_) o ho
        rcases List.mem_append.1 hx with hx | hx
        · exact ha x hx
        · rw [List.mem_singleton.1 hx]; exact at_num h a
    · exact ha o ho

theorem chain_right {h : List Int} : ∀ {l : List Obj} {a : Nat}, Chain h a l → ∀ o, o ∈ l → rightS o = true
  | [], _, _, _, ho => by cases ho
  | x :: l, _, hc, o, ho => by
    obtain ⟨_, h1, _, _, h2⟩ := hc
    rcases List.mem_cons.1 ho with rfl | ho
    · exact h1
    · exact chain_right h2 o ho

theorem sum_lt (s : ByteArray) (i : Nat) : sumF s i 8 0 < 18446744073709551616 := by
  have b0 := byteV_lt s (i + 0)
  have b1 := byteV_lt s (i + 1)
  have b2 := byteV_lt s (i + 2)
  have b3 := byteV_lt s (i + 3)
  have b4 := byteV_lt s (i + 4)
  have b5 := byteV_lt s (i + 5)
  have b6 := byteV_lt s (i + 6)
  have b7 := byteV_lt s (i + 7)
  show byteV s (i + 0) * 2 ^ 0 + (byteV s (i + 1) * 2 ^ 8 + (byteV s (i + 2) * 2 ^ 16 + (byteV s (i + 3) * 2 ^ 24 + (byteV s (i + 4) * 2 ^ 32 + (byteV s (i + 5) * 2 ^ 40 + (byteV s (i + 6) * 2 ^ 48 + (byteV s (i + 7) * 2 ^ 56 + 0))))))) < _
  omega

theorem textF_ok (s : ByteArray) : ∀ (m i : Nat) (w : Int), w ∈ textF s m i → WordOk w
  | 0, _, _, h => by cases h
  | m + 1, i, w, h => by
    rcases List.mem_cons.1 h with rfl | h
    · rw [word_val]
      have := sum_lt s i
      exact ⟨Int.natCast_nonneg _, by omega⟩
    · exact textF_ok s m (i + 8) w h

theorem enc_ok {o : Obj} (hp : ∀ w, w ∈ o.parts → WordOk w) : ∀ w, w ∈ encW o → WordOk w := by
  intro w hw
  unfold encW at hw
  rcases List.mem_cons.1 hw with rfl | hw
  · exact bits_ok _ _ _
  · rcases List.mem_append.1 hw with hw | hw
    · unfold numW at hw
      split at hw
      · rw [List.mem_singleton.1 hw, IntKind.wrap_u64]
        exact ⟨by omega, by omega⟩
      · cases hw
    · rcases List.mem_append.1 hw with hw | hw
      · exact textF_ok _ _ _ w hw
      · exact hp w hw

theorem flat_ok : ∀ {L : List Obj}, (∀ o, o ∈ L → ∀ w, w ∈ o.parts → WordOk w) → ∀ w, w ∈ flat L → WordOk w
  | [], _, w, hw => by cases hw
  | o :: L, h, w, hw => by
    rcases List.mem_append.1 (show w ∈ encW o ++ flat L from hw) with hw | hw
    · exact enc_ok (h o List.mem_cons_self) w hw
    · exact flat_ok (fun x hx => h x (List.mem_cons_of_mem _ hx)) w hw

theorem objects_flat {L : List Obj} (h1 : ∀ o, o ∈ L → rightS o = true ∧ NumOk o.num) (h2 : ∀ w, w ∈ flat L → WordOk w) (h4 : (flat L).length ≤ 4000) : ACallP Try.prog 15 [words (flat L)] (.tup [objs (place 0 L), iD 0]) := by
  have h := objects (flat L) (by simp [maxLen]; omega) h2
  rw [objs_flat h1 h4] at h
  exact h

theorem whole (h : List Int) (hlen : h.length ≤ maxLen) (hok : ∀ w, w ∈ h → WordOk w) (o : Obj) (hon : NumOk o.num) (hop : ∀ w, w ∈ o.parts → WordOk w) (f : Nat) (k n : Int) (text : ByteArray) (args : List (List PV))
    (hsh : shapeOk Try.prog f 38 [.lit (.int .i64 k), .lit (.int .i64 n), .lit (.string text), .sl args]) : ACallP Try.prog 4 [words h, objD o, valD k n text args] (bD true) := by
  have hob := objects h hlen hok
  have hv : objsS h = if decide ((h.length : Int) > 4000) then ([], 2) else objF h (h.length + 1) 0 [] := rfl
  by_cases h4 : h.length ≤ 4000
  · rw [if_neg (by simp; omega)] at hv
    rw [hv] at hob
    by_cases he : (objF h (h.length + 1) 0 []).2 = 0
    · obtain ⟨l', hl, hc⟩ := objF_chain hlen hok (h.length + 1) 0 [] (objF h (h.length + 1) 0 []).1 (by omega) (Nat.zero_le _) (by rw [← he])
      rw [List.nil_append] at hl
      rw [← hl] at hc
      rw [he] at hob
      have hnums := objF_nums (h := h) (h.length + 1) 0 [] (fun x hx => by cases hx)
      generalize (objF h (h.length + 1) 0 []).1 = l at *
      have hll := chain_len hc
      have hri := chain_right hc
      have hfl := chain_flat hc
      rw [List.drop_zero] at hfl
      have hgood : ∀ x, x ∈ l → rightS x = true ∧ NumOk x.num := fun x hx => ⟨hri x hx, hnums x hx⟩
      obtain ⟨b, hflat⟩ := flatP f k n text args hsh
      obtain ⟨B, hB⟩ := buildEx f _ hsh
      obtain ⟨hbu, hgr⟩ := hB h h4
      simp only [List.map_cons, List.map_nil] at hbu
      have hput := put h o hlen
      refine wholeGood h _ _ l o k n text args _ _ _ _ b (by omega) hob hput (fun h3 => ?_) hflat hbu (fun h2 => ?_)
      · unfold putS at h3 ⊢
        by_cases hr : (!rightS o) = true
        · rw [if_pos hr] at h3; simp at h3
        rw [if_neg hr] at h3 ⊢
        have hr : rightS o = true := by simpa using hr
        by_cases hm : decide ((h.length : Int) > 4000 - (roomN o.kind o.text.size o.parts.length : Int)) = true
        · rw [if_pos hm] at h3; simp at h3
        rw [if_neg hm]
        have hel := enc_len o
        simp only [decide_eq_true_eq] at hm
        have hlen2 : (h ++ encW o).length ≤ 4000 := by rw [List.length_append, hel]; omega
        have hwok : ∀ w, w ∈ h ++ encW o → WordOk w := fun w hw => by
          rcases List.mem_append.1 hw with hw | hw
          · exact hok w hw
          · exact enc_ok hop w hw
        have hfl2 : h ++ encW o = flat (l ++ [o]) := by rw [flat_append, ← hfl]; simp [flat]
        have hg2 : ∀ x, x ∈ l ++ [o] → rightS x = true ∧ NumOk x.num := fun x hx => by
          rcases List.mem_append.1 hx with hx | hx
          · exact hgood x hx
          · rw [List.mem_singleton.1 hx]; exact ⟨hr, hon⟩
        have hobg := objects_flat hg2 (by rw [← hfl2]; exact hwok) (by rw [← hfl2]; exact hlen2)
        have hat := at_ (h ++ encW o) h.length (by simp [maxLen]; omega) hwok
        have hae := at_enc h [] o hr hon
        rw [List.append_nil] at hae
        rw [hae] at hat
        exact ⟨(right_small hr).2, place 0 (l ++ [o]), h.length, by rw [← hfl2] at hobg; exact hobg, by rw [place_len]; simp, hat⟩
      · rcases hgr with ⟨h5, _⟩ | ⟨_, _, h6, L, h7, h8⟩
        · exact absurd h2 h5
        · have hfl2 : (B h).1 = flat (l ++ L) := by rw [h7, flat_append, ← hfl]
          have hg2 : ∀ x, x ∈ l ++ L → rightS x = true ∧ NumOk x.num := fun x hx => by
            rcases List.mem_append.1 hx with hx | hx
            · exact hgood x hx
            · exact ⟨(h8 x hx).1, (h8 x hx).2.1⟩
          have hwok : ∀ w, w ∈ flat (l ++ L) → WordOk w := fun w hw => by
            rw [← hfl2, h7] at hw
            rcases List.mem_append.1 hw with hw | hw
            · exact hok w hw
            · exact flat_ok (fun x hx => (h8 x hx).2.2) w hw
          have hob2 := objects_flat hg2 hwok (by rw [← hfl2]; exact h6)
          rw [← hfl2] at hob2
          exact ⟨place 0 (l ++ L), hob2, by rw [place_len]; simp⟩
    · rw [objF_err _ _ _ he] at hob
      exact wholeBad h o k n text args _ (by simpa using he) hob
  · rw [if_pos (by simp; omega)] at hv
    rw [hv] at hob
    exact wholeBad h o k n text args 2 (by decide) hob
end Go.Proofs.Ytagphggcdmjlpaa.P

/- Words are read: contracts, and that they are read as they were told. -/
namespace Go.Proofs.Ytagphggcdmjlpaa.P
open Go.Ab Go.Proofs.Ytagphggcdmjlpaa.T

/-- What Read answers. -/
def readT (w : Int) : Int := IntKind.i64.wrap (w.tmod 8)
def readN0 (w : Int) : Int := IntKind.i64.wrap (w.fdiv (2 ^ min 3 64))
def readN1 (w : Int) : Int := (IntKind.i64.wrap w).fdiv (2 ^ min 3 64)
def readN (w : Int) : Int := if readT w = 1 then readN1 w else readN0 w

def readS (w : Int) : Int × Int × Int :=
  if (wordS (readT w) (readN w)).2 = 0 ∧ (wordS (readT w) (readN w)).1 = w then (readT w, readN w, 0) else (0, 0, 3)

theorem readW (w : Int) : ACallP Try.prog 62 [wD w] (.tup [iD (readS w).1, iD (readS w).2.1, iD (readS w).2.2]) := by
  obtain ⟨t, ht⟩ : ∃ t, t = readT w := ⟨_, rfl⟩
  obtain ⟨n, hn⟩ : ∃ n, n = readN w := ⟨_, rfl⟩
  have hw := word t n
  obtain ⟨x, hx⟩ : ∃ x, x = wordS t n := ⟨_, rfl⟩
  rw [← hx] at hw
  have hr : readS w = if x.2 = 0 ∧ x.1 = w then (t, n, 0) else (0, 0, 3) := by rw [hx, ht, hn]; rfl
  obtain ⟨x, e⟩ := x
  simp only at hw hr
  rw [hr]
  refine acallp_fn [2, 3, 4] Try.func62 rfl rfl Try.ntmps62 (by simp) fun R hR => ?_
  (refine awp_reg_seq [0] fun K hK => ?_; (repeat' ((refine al_r rfl fun K' hK' => ?_); (repeat (simp only [go_sem, simprocAttr])); ((refine hK' _ _ ?_) <;> clear hK' K'))); all_goals (refine al_nil ?_; (simp only [go_sem, simprocAttr]); refine hK _ ?_; clear hK K))
  (refine awp_reg_seq [0, 5, 6] fun K hK => ?_; (repeat' ((refine al_r rfl fun K' hK' => ?_); (repeat (simp only [go_sem, simprocAttr])); ((refine hK' _ _ ?_) <;> clear hK' K'))); all_goals (refine al_nil ?_; (simp only [go_sem, simprocAttr]); refine hK _ ?_; clear hK K))
  rw [show IntKind.i64.wrap (w.tmod 8) = t from ht.symm, show IntKind.i64.wrap (w.fdiv (2 ^ min 3 64)) = readN0 w from rfl]
  refine awp_seq_k fun K hK => ?_
  have key : ∀ d, K ⟨ofL [(0, wD w), (5, iD t), (6, iD n), (16, d)], [], 0⟩ := by
    intro d
    refine hK _ ?_; clear hK K
    refine awp_seq_k fun K hK => ?_
    (refine awp_reg_seq [0, 5, 6, 7, 8] fun K hK => ?_; (repeat' ((refine al_r rfl fun K' hK' => ?_); (repeat (simp only [go_sem, simprocAttr])); (first | ((refine hK' _ _ ?_) <;> clear hK' K') | ((show AC _ _ (D.fn 57 _) _ _); refine acall_p (f := 57) (e := rfl) (hr := rfl) (k := hK' _ _ ?_) (hc := Try.call57) (h := hw); clear hK' K')))); all_goals (refine al_nil ?_; (simp only [go_sem, simprocAttr]); refine hK _ ?_; clear hK K))
    refine awp_reg_to [5, 6, 32] (k := ?_) (h := ?_) (s1 := ⟨ofL [(5, iD t), (6, iD n), (32, bD (e != 0 || x != w))], [], 0⟩); · ((repeat' (first | ((first | refine al_r rfl fun K' hK' => ?_ | refine al_t rfl rfl fun K' hK' => ?_); (repeat (simp only [go_sem, simprocAttr])); ((refine hK' _ _ ?_) <;> clear hK' K')) | refine al_e rfl rfl ?_ | ((fail_if_success (refine al_t rfl rfl fun K' hK' => ?_)); refine al_s _ rfl rfl rfl (fun hb => ?_) (fun hb => ?_)))); all_goals (refine al_nil ?_; simp only [go_sem, simprocAttr, *, Bool.and_true, Bool.and_false, Bool.true_and, Bool.false_and, Bool.or_true, Bool.true_or, Bool.or_false, Bool.false_or, Bool.not_true, Bool.not_false, Bool.false_eq_true]))
    refine awp_if (_) rfl (fun hc => ?_) (fun hc => ?_)
    · (refine awp_reg_seq [2, 3, 4] fun K hK => ?_; (repeat' ((refine al_r rfl fun K' hK' => ?_); (repeat (simp only [go_sem, simprocAttr])); ((refine hK' _ _ ?_) <;> clear hK' K'))); all_goals (refine al_nil ?_; (simp only [go_sem, simprocAttr]); refine hK _ ?_; clear hK K))
      refine awp_ret ?_; (refine hR _ _ (.inl rfl) rfl ?_)
      have : ¬ (e = 0 ∧ x = w) := by simp only [Bool.or_eq_true, bne_iff_ne] at hc; omega
      rw [if_neg this]
      simp only [go_sem, simprocAttr]
    · refine awp_skip ?_
      refine hK _ ?_; clear hK K
      (refine awp_reg_seq [2, 3, 4] fun K hK => ?_; (repeat' ((refine al_r rfl fun K' hK' => ?_); (repeat (simp only [go_sem, simprocAttr])); ((refine hK' _ _ ?_) <;> clear hK' K'))); all_goals (refine al_nil ?_; (simp only [go_sem, simprocAttr]); refine hK _ ?_; clear hK K))
      refine awp_ret ?_; (refine hR _ _ (.inl rfl) rfl ?_)
      have : e = 0 ∧ x = w := by simpa using hc
      rw [if_pos this]
      simp only [go_sem, simprocAttr]
  clear hK
  (refine awp_reg_seq [0, 5, 6, 16] fun K hK => ?_; (repeat' ((refine al_r rfl fun K' hK' => ?_); (repeat (simp only [go_sem, simprocAttr])); ((refine hK' _ _ ?_) <;> clear hK' K'))); all_goals (refine al_nil ?_; (simp only [go_sem, simprocAttr]); refine hK _ ?_; clear hK K))
  refine awp_if (_) rfl (fun hc => ?_) (fun hc => ?_)
  · have h1 : readT w = 1 := by rw [← ht]; simpa using hc
    (refine awp_reg_end [0, 5, 6, 16] fun K hK => ?_; (repeat' ((refine al_r rfl fun K' hK' => ?_); (repeat (simp only [go_sem, simprocAttr])); ((refine hK' _ _ ?_) <;> clear hK' K'))); all_goals (refine al_nil ?_; (simp only [go_sem, simprocAttr]); refine hK _ ?_; clear hK K))
    have : (IntKind.i64.wrap w).fdiv (2 ^ min 3 64) = n := by rw [hn, readN, if_pos h1]; rfl
    rw [this]
    exact key _
  · have h1 : ¬ readT w = 1 := by rw [← ht]; simpa using hc
    refine awp_skip ?_
    have : readN0 w = n := by rw [hn, readN, if_neg h1]
    rw [this]
    exact key _
/-- The kinds by tags. -/
def kindOf (t : Int) : Int := if t = 0 then 1 else if t = 1 then 2 else if t = 2 then 3 else 6

/-- What Value answers. -/
def valueS (w : Int) : Int × Int × Bool := if (readS w).2.2 != 0 || (readS w).1 == 4 then (0, 0, false) else (kindOf (readS w).1, (readS w).2.1, true)

theorem readS_range (w : Int) (h : (readS w).2.2 = 0) : 0 ≤ (readS w).1 ∧ (readS w).1 ≤ 4 := by
  unfold readS at h ⊢
  split at h
  · rename_i hc
    rw [if_pos hc]
    have := hc.1
    unfold wordS at this
    split at this
    · rename_i hf
      simp [fits] at hf
      show 0 ≤ readT w ∧ readT w ≤ 4
      omega
    · split at this <;> simp at this
  · simp at h

theorem valueW (w : Int) : ACallP Try.prog 81 [wD w] (.tup [.agg [iD (valueS w).1, iD (valueS w).2.1, .p (.lit (.string ByteArray.empty)), .p (.sl [])], bD (valueS w).2.2]) := by
  have hw := readW w
  have hv : valueS w = if (readS w).2.2 != 0 || (readS w).1 == 4 then (0, 0, false) else (kindOf (readS w).1, (readS w).2.1, true) := rfl
  have hrg := readS_range w
  generalize readS w = x at hw hv hrg
  obtain ⟨t, n, e⟩ := x
  simp only at hw hv hrg
  rw [hv]
  refine acallp_fnv [.cell 2 38, .tmp 3] Try.func81 rfl rfl Try.ntmps81 (by simp) fun R hR => ?_
  (refine awp_reg_seq [0, 2] fun K hK => ?_; (repeat' ((refine al_r rfl fun K' hK' => ?_); (repeat (simp only [go_sem, simprocAttr])); ((refine hK' _ _ ?_) <;> clear hK' K'))); all_goals (refine al_nil ?_; (simp only [go_sem, simprocAttr]); refine hK _ ?_; clear hK K))
  (refine awp_reg_seq [2, 4, 5, 6] fun K hK => ?_; (repeat' ((refine al_r rfl fun K' hK' => ?_); (repeat (simp only [go_sem, simprocAttr])); (first | ((refine hK' _ _ ?_) <;> clear hK' K') | ((show AC _ _ (D.fn 62 _) _ _); refine acall_p (f := 62) (e := rfl) (hr := rfl) (k := hK' _ _ ?_) (hc := Try.call62) (h := hw); clear hK' K')))); all_goals (refine al_nil ?_; (simp only [go_sem, simprocAttr]); refine hK _ ?_; clear hK K))
  refine awp_seq_k fun K hK => ?_
  refine awp_reg_to [2, 4, 5, 18] (k := ?_) (h := ?_) (s1 := ⟨ofL [(2, .ptr 0 0 0), (4, iD t), (5, iD n), (18, bD (e != 0 || t == 4))], [.box [iD 0, iD 0, .p (.lit (.string ByteArray.empty)), .nil]], 0⟩); · ((repeat' (first | ((first | refine al_r rfl fun K' hK' => ?_ | refine al_t rfl rfl fun K' hK' => ?_); (repeat (simp only [go_sem, simprocAttr])); ((refine hK' _ _ ?_) <;> clear hK' K')) | refine al_e rfl rfl ?_ | ((fail_if_success (refine al_t rfl rfl fun K' hK' => ?_)); refine al_s _ rfl rfl rfl (fun hb => ?_) (fun hb => ?_)))); all_goals (refine al_nil ?_; simp only [go_sem, simprocAttr, *, Bool.and_true, Bool.and_false, Bool.true_and, Bool.false_and, Bool.or_true, Bool.true_or, Bool.or_false, Bool.false_or, Bool.not_true, Bool.not_false, Bool.false_eq_true]))
  refine awp_if (_) rfl (fun hc => ?_) (fun hc => ?_)
  · (refine awp_reg_seq [2, 3] fun K hK => ?_; (repeat' ((first | refine al_r rfl fun K' hK' => ?_ | refine al_d rfl fun K' hK' => ?_); (repeat (first | (simp only [go_sem, simprocAttr]) | refine AS.mk ?_)); ((first | refine hK' _ _ ?_ | refine ⟨?_, hK' _ _ ?_⟩) <;> clear hK' K' <;> (first | (show alist _ _ _ _ _ _; skip) | (simp; done))))); all_goals (refine al_nil ?_; (simp only [go_sem, simprocAttr]); refine hK _ ?_; clear hK K))
    refine awp_ret ?_; refine hR _ _ (.inl rfl) rfl ?_
    simp only [hc, go_sem, simprocAttr]
  · refine awp_skip ?_
    refine hK _ ?_; clear hK K
    have he : e = 0 ∧ t ≠ 4 := by simpa using hc
    have h0 : 0 ≤ t ∧ t ≤ 4 := hrg he.1
    have h1 : 0 ≤ t := h0.1
    have h2 : t < 4 := by omega
    have hcs : ([.p (.lit (.int .i64 1)), .p (.lit (.int .i64 2)), .p (.lit (.int .i64 3)), .p (.lit (.int .i64 6))] : List D)[t.toNat]? = some (iD (kindOf t)) := by
      have : t = 0 ∨ t = 1 ∨ t = 2 ∨ t = 3 := by omega
      rcases this with rfl | rfl | rfl | rfl <;> rfl

    refine awp_reg_seq [2, 3] fun K hK => ?_
    repeat' ((first | refine al_r rfl fun K' hK' => ?_ | refine al_d rfl fun K' hK' => ?_); (repeat (first | (simp only [go_sem, simprocAttr, hcs, h1, h2, Nat.mul_one, Int.ofNat_eq_natCast, Int.cast_ofNat_Int]) | refine AS.mk ?_)); ((first | refine hK' _ _ ?_ | refine ⟨?_, hK' _ _ ?_⟩) <;> clear hK' K' <;> (first | (show alist _ _ _ _ _ _; skip) | (simp; done))))
    (refine al_nil ?_; (simp only [go_sem, simprocAttr, hcs, h1, h2, Nat.mul_one, Int.ofNat_eq_natCast, Int.cast_ofNat_Int]); refine hK _ ?_; clear hK K)
    refine awp_ret ?_; refine hR _ _ (.inl rfl) rfl ?_
    simp only [hc, go_sem, simprocAttr, hcs, h1, h2, Nat.mul_one, Int.ofNat_eq_natCast, Int.cast_ofNat_Int, Bool.false_eq_true]



open Go.RowKit

theorem fits_lt {t n : Int} (h : fits t n = true) : 0 ≤ t ∧ t ≤ 4 ∧ -1152921504606846976 ≤ n ∧ n < 1152921504606846976 ∧ (t ≠ 1 → 0 ≤ n) := by
  simp [fits] at h
  omega

theorem wrapU (n : Int) : IntKind.u64.wrap n = n % 18446744073709551616 := by simp [IntKind.wrap, IntKind.bits, IntKind.signed]

/-- Eight times a number, joined with less than eight: the sum. -/
theorem wordOf_eq {t n : Int} (h0 : 0 ≤ t) (h1 : t < 8) : wordOf t n = (n * 8) % 18446744073709551616 + t := by
  unfold wordOf
  rw [wrapU, wrapU, wrapU]
  have e : n % 18446744073709551616 * 8 % 18446744073709551616 = n * 8 % 18446744073709551616 := by omega
  rw [e, show t % 18446744073709551616 = t by omega]
  have := bits_join .u64 64 (by decide) (fun n h0 h1 => by rw [wrapU]; omega) 3 (n * 8 % 18446744073709551616) t
  exact this (by omega) (by omega) (by omega) h0 (by omega) (by omega)

theorem wordS_snd (t n : Int) : (wordS t n).2 = 0 ↔ fits t n = true := by
  unfold wordS; split
  · simp [*]
  · split <;> simp [*]

theorem wordS_fst {t n : Int} (h : fits t n = true) : (wordS t n).1 = (n * 8) % 18446744073709551616 + t := by
  have a := fits_lt h
  unfold wordS; rw [if_pos h]; exact wordOf_eq (by omega) (by omega)

theorem wrapI (n : Int) : IntKind.i64.wrap n = (n + 9223372036854775808) % 18446744073709551616 - 9223372036854775808 := by
  simp only [IntKind.wrap, IntKind.bits, IntKind.signed]
  simp
  omega

theorem p8 : ((2 : Int) ^ min 3 64) = 8 := by decide

/-- A word is read as it was told. -/
theorem read_word {t n : Int} (h : fits t n = true) : readS (wordS t n).1 = (t, n, 0) := by
  have hl := fits_lt h
  have e := wordS_fst h
  have h0 : 0 ≤ (wordS t n).1 := by rw [e]; omega
  have ht : readT (wordS t n).1 = t := by
    unfold readT
    rw [Int.tmod_eq_emod_of_nonneg h0, wrapI, e]
    omega
  have hn : readN (wordS t n).1 = n := by
    unfold readN
    rw [ht]
    by_cases h1 : t = 1
    · rw [if_pos h1]
      unfold readN1
      rw [p8, wrapI, Int.fdiv_eq_ediv_of_nonneg _ (by omega), e]
      omega
    · rw [if_neg h1]
      unfold readN0
      rw [p8, wrapI, Int.fdiv_eq_ediv_of_nonneg _ (by omega), e]
      have := hl.2.2.2.2 h1
      omega
  unfold readS
  rw [ht, hn, if_pos ⟨(wordS_snd t n).2 h, rfl⟩]

theorem tag_kind {k : Int} (h : 0 ≤ tagOf k) : kindOf (tagOf k) = k ∧ tagOf k ≠ 4 := by
  unfold tagOf at h ⊢
  by_cases h1 : k = 1
  · rw [if_pos h1, h1]; decide
  rw [if_neg h1] at h ⊢
  by_cases h2 : k = 2
  · rw [if_pos h2, h2]; decide
  rw [if_neg h2] at h ⊢
  by_cases h3 : k = 3
  · rw [if_pos h3, h3]; decide
  rw [if_neg h3] at h ⊢
  by_cases h4 : k = 6
  · rw [if_pos h4, h4]; decide
  rw [if_neg h4] at h
  omega

theorem of_value {k n : Int} {text : ByteArray} {args : List (List PV)} (h : (ofS k n text args).2 = true) : (valueS (ofS k n text args).1).2.2 = true ∧ (valueS (ofS k n text args).1).1 = k ∧ (valueS (ofS k n text args).1).2.1 = n := by
  unfold ofS at h ⊢
  split at h
  · cases h
  · rename_i hc
    rw [if_neg hc]
    have h0 : 0 ≤ tagOf k := by
      simp only [Bool.or_eq_true, decide_eq_true_eq, not_or] at hc
      omega
    have hf : fits (tagOf k) n = true := by rw [← wordS_snd]; simpa using h
    have hr := read_word hf
    obtain ⟨hk, h4⟩ := tag_kind h0
    show (valueS (wordS (tagOf k) n).1).2.2 = true ∧ (valueS (wordS (tagOf k) n).1).1 = k ∧ (valueS (wordS (tagOf k) n).1).2.1 = n
    unfold valueS
    rw [hr]
    have : ((0 : Int) != 0 || tagOf k == 4) = false := by simp [h4]
    simp only [this]
    exact ⟨rfl, hk, rfl⟩


def kindsS (k : Int) : Int := if k = 1 then 2 else if k = 2 then 4 else if k = 3 then 5 else if k = 4 then 7 else 8

theorem kinds (k : Int) (h1 : 1 ≤ k) (h5 : k ≤ 5) : ACallP Try.prog 82 [iD k] (iD (kindsS k)) := by
  have h0 : 0 ≤ k := by omega
  have h6 : k < 6 := by omega
  have hcs : ([iD 0, .p (.lit (.int .i64 2)), .p (.lit (.int .i64 4)), .p (.lit (.int .i64 5)), .p (.lit (.int .i64 7)), .p (.lit (.int .i64 8))] : List D)[k.toNat]? = some (iD (kindsS k)) := by
    have : k = 1 ∨ k = 2 ∨ k = 3 ∨ k = 4 ∨ k = 5 := by omega
    rcases this with rfl | rfl | rfl | rfl | rfl <;> rfl
  refine acallp_fn [2] Try.func82 rfl rfl Try.ntmps82 (by simp) fun R hR => ?_
  (refine awp_reg_seq [0] fun K hK => ?_; (repeat' ((refine al_r rfl fun K' hK' => ?_); (repeat (simp only [go_sem, simprocAttr])); ((refine hK' _ _ ?_) <;> clear hK' K'))); all_goals (refine al_nil ?_; (simp only [go_sem, simprocAttr]); refine hK _ ?_; clear hK K))

  (refine awp_reg_seq [2] fun K hK => ?_; (repeat' ((refine al_r rfl fun K' hK' => ?_); (repeat (simp only [go_sem, simprocAttr, hcs, h0, h6, Nat.mul_one, Int.ofNat_eq_natCast, Int.cast_ofNat_Int])); ((refine hK' _ _ ?_) <;> clear hK' K'))); all_goals (refine al_nil ?_; (simp only [go_sem, simprocAttr, hcs, h0, h6, Nat.mul_one, Int.ofNat_eq_natCast, Int.cast_ofNat_Int]); refine hK _ ?_; clear hK K))
  all_goals (refine awp_ret ?_; (refine hR _ _ (.inl rfl) rfl ?_); (simp only [go_sem, simprocAttr, hcs, h0, h6, Nat.mul_one, Int.ofNat_eq_natCast, Int.cast_ofNat_Int, *, Bool.and_true, Bool.and_false, Bool.true_and, Bool.false_and, Bool.or_true, Bool.true_or, Bool.or_false, Bool.false_or, Bool.not_true, Bool.not_false, Bool.false_eq_true]; done))
end Go.Proofs.Ytagphggcdmjlpaa.P

/- Places that words name; are numbers contained: contracts. -/
namespace Go.Proofs.Ytagphggcdmjlpaa.P
open Go.Ab Go.Proofs.Ytagphggcdmjlpaa.T

/-- What place answers. -/
def placeS (w : Int) : Int × Bool × Int := ((readS w).2.1, (readS w).2.2 == 0 && (readS w).1 == 4, (readS w).2.2)


theorem placeW (w : Int) : ACallP Try.prog 68 [wD w] (.tup [iD (placeS w).1, bD (placeS w).2.1, iD (placeS w).2.2]) := by
  have hrd := readW w
  unfold placeS
  generalize readS w = Q at hrd ⊢
  obtain ⟨t, n, e⟩ := Q
  simp only at hrd ⊢
  refine acallp_fn [2, 3, 4] Try.func68 rfl rfl Try.ntmps68 (by simp) fun R hR => ?_
  (refine awp_reg_seq [0] fun K hK => ?_; (repeat' ((refine al_r rfl fun K' hK' => ?_); (repeat (simp only [go_sem, simprocAttr])); ((refine hK' _ _ ?_) <;> clear hK' K'))); all_goals (refine al_nil ?_; (simp only [go_sem, simprocAttr]); refine hK _ ?_; clear hK K))
  (refine awp_reg_seq [5, 6, 7] fun K hK => ?_; (repeat' ((refine al_r rfl fun K' hK' => ?_); (repeat (simp only [go_sem, simprocAttr])); (first | ((refine hK' _ _ ?_) <;> clear hK' K') | ((show AC _ _ (D.fn 62 _) _ _); refine acall_p (f := 62) (e := rfl) (hr := rfl) (k := hK' _ _ ?_) (hc := Try.call62) (h := hrd); clear hK' K')))); all_goals (refine al_nil ?_; (simp only [go_sem, simprocAttr]); refine hK _ ?_; clear hK K))
  (refine awp_reg_seq [2, 3, 4] fun K hK => ?_; (repeat' (first | ((first | refine al_r rfl fun K' hK' => ?_ | refine al_t rfl rfl fun K' hK' => ?_); (repeat (simp only [go_sem, simprocAttr])); ((refine hK' _ _ ?_) <;> clear hK' K')) | refine al_e rfl rfl ?_ | ((fail_if_success (refine al_t rfl rfl fun K' hK' => ?_)); refine al_s _ rfl rfl rfl (fun hb => ?_) (fun hb => ?_)))); all_goals (refine al_nil ?_; (simp only [go_sem, simprocAttr]); refine hK _ ?_; clear hK K))
  all_goals (refine awp_ret ?_; (refine hR _ _ (.inl rfl) rfl ?_); (simp only [go_sem, simprocAttr, *, Bool.and_true, Bool.and_false, Bool.true_and, Bool.false_and, Bool.or_true, Bool.true_or, Bool.or_false, Bool.false_or, Bool.not_true, Bool.not_false, Bool.false_eq_true]; done))


theorem indexI (ls : List Int) (hlen : ls.length ≤ maxLen) (v : Int) : ACallP Try.prog 65 [ints ls, iD v] (iD (firstAt (fun n => v == n) ls)) := by
  refine acallp_fn [4] Try.func65 rfl rfl Try.ntmps65 (by simp) fun R hR => ?_
  (refine awp_reg_seq [0, 1] fun K hK => ?_; (repeat' ((refine al_r rfl fun K' hK' => ?_); (repeat (simp only [go_sem, simprocAttr, List.length_map])); ((refine hK' _ _ ?_) <;> clear hK' K'))); all_goals (refine al_nil ?_; (simp only [go_sem, simprocAttr, List.length_map]); refine hK _ ?_; clear hK K))
  refine awp_seq_k fun K hK => ?_
  (refine awp_reg_seq [0, 1, 7, 8] fun K hK => ?_; (repeat' ((refine al_r rfl fun K' hK' => ?_); (repeat (simp only [go_sem, simprocAttr, List.length_map])); ((first | refine hK' _ _ ?_ | refine ⟨?_, hK' _ _ ?_⟩) <;> clear hK' K' <;> (first | (show alist _ _ _ _ _ _; skip) | (intro s hs; cases hs; done))))); all_goals (refine al_nil ?_; (simp only [go_sem, simprocAttr, List.length_map]); refine hK _ ?_; clear hK K))
  refine awp_block ?_
  -- loop 0 head [0, 1, 7, 8]
  refine awp_loop (fun m s => ∃ i : Nat, i ≤ ls.length ∧ m = ls.length - i ∧ (∀ (j : Nat) y, j < i → ls[j]? = some y → (v == y) = false) ∧ s = ⟨ofL [(0, ints ls), (1, iD v), (7, iD ls.length), (8, iD i)], [], 0⟩) ⟨_, 0, Nat.zero_le _, rfl, fun j _ hj => absurd hj (by omega), rfl⟩ ?_
  rintro m s ⟨i, hi, rfl, hbefore, rfl⟩
  (refine awp_reg_seq [0, 1, 7, 8, 9] fun K hK => ?_; (repeat' ((refine al_r rfl fun K' hK' => ?_); (repeat (simp only [go_sem, simprocAttr, List.length_map])); ((refine hK' _ _ ?_) <;> clear hK' K'))); all_goals (refine al_nil ?_; (simp only [go_sem, simprocAttr, List.length_map]); refine hK _ ?_; clear hK K))
  refine awp_seq_k fun K hK => ?_
  refine awp_if (decide ((i : Int) < ls.length)) rfl (fun hc => ?_) (fun hc => ?_)
  · refine awp_skip ?_
    refine hK _ ?_; clear hK K
    refine awp_seq_k fun K hK => ?_
    refine awp_block ?_
    have hi2 : i < ls.length := by simpa using hc
    obtain ⟨x, hx⟩ := get_of_lt hi2
    have hnn : (0 : Int) ≤ (i : Int) := Int.natCast_nonneg i
    have hnx : IntKind.i64.wrap ((i : Int) + 1) = ((i + 1 : Nat) : Int) := wrap_next hi2 hlen

    (refine awp_reg_seq [0, 1, 5, 7, 8] fun K hK => ?_; (repeat' ((refine al_r rfl fun K' hK' => ?_); (repeat (simp only [go_sem, simprocAttr, List.length_map, hx, hnn, hi2, Int.toNat_natCast, List.getElem?_map, Option.map_some, hnx])); ((refine hK' _ _ ?_) <;> clear hK' K'))); all_goals (refine al_nil ?_; (simp only [go_sem, simprocAttr, List.length_map, hx, hnn, hi2, Int.toNat_natCast, List.getElem?_map, Option.map_some, hnx]); refine hK _ ?_; clear hK K))
    (refine awp_reg_seq [0, 1, 5, 7, 8, 16] fun K hK => ?_; (repeat' ((refine al_r rfl fun K' hK' => ?_); (repeat (simp only [go_sem, simprocAttr, List.length_map, hx, hnn, hi2, Int.toNat_natCast, List.getElem?_map, Option.map_some, hnx])); ((refine hK' _ _ ?_) <;> clear hK' K'))); all_goals (refine al_nil ?_; (simp only [go_sem, simprocAttr, List.length_map, hx, hnn, hi2, Int.toNat_natCast, List.getElem?_map, Option.map_some, hnx]); refine hK _ ?_; clear hK K))
    refine awp_if (v == x) rfl (fun hc => ?_) (fun hc => ?_)
    · rw [firstAt_at (fun j hj y hy => hbefore j y hj hy) hx hc] at hR
      (refine awp_reg_seq [4] fun K hK => ?_; (repeat' ((refine al_r rfl fun K' hK' => ?_); (repeat (simp only [go_sem, simprocAttr, List.length_map, hx, hnn, hi2, Int.toNat_natCast, List.getElem?_map, Option.map_some, hnx])); ((refine hK' _ _ ?_) <;> clear hK' K'))); all_goals (refine al_nil ?_; (simp only [go_sem, simprocAttr, List.length_map, hx, hnn, hi2, Int.toNat_natCast, List.getElem?_map, Option.map_some, hnx]); refine hK _ ?_; clear hK K))
      all_goals (refine awp_ret ?_; (refine hR _ _ (.inl rfl) rfl ?_); (simp only [go_sem, simprocAttr, List.length_map, hx, hnn, hi2, Int.toNat_natCast, List.getElem?_map, Option.map_some, hnx, *, Bool.and_true, Bool.and_false, Bool.true_and, Bool.false_and, Bool.or_true, Bool.true_or, Bool.or_false, Bool.false_or, Bool.not_true, Bool.not_false, Bool.false_eq_true]; done))
    · have hne := hc
      refine awp_skip ?_
      refine hK _ ?_; clear hK K
      (refine awp_reg_end [0, 1, 7, 8] fun K hK => ?_; (repeat' ((refine al_r rfl fun K' hK' => ?_); (repeat (simp only [go_sem, simprocAttr, List.length_map, hx, hnn, hi2, Int.toNat_natCast, List.getElem?_map, Option.map_some, hnx])); ((refine hK' _ _ ?_) <;> clear hK' K'))); all_goals (refine al_nil ?_; (simp only [go_sem, simprocAttr, List.length_map, hx, hnn, hi2, Int.toNat_natCast, List.getElem?_map, Option.map_some, hnx]); refine hK _ ?_; clear hK K))
      refine ⟨_, ?_, i + 1, hi2, rfl, fun j y hj hy => ?_, ?_⟩
      · omega
      · rcases Nat.lt_succ_iff_lt_or_eq.1 hj with h | rfl
        · exact hbefore j y h hy
        · rw [hx] at hy; cases hy; exact hne
      · rfl

  · refine awp_exit ?_
    have hie : i = ls.length := by simp at hc; omega
    rw [firstAt_none (fun j y hy => hbefore j y (by rw [hie]; exact lt_of_get hy) hy)] at hR
    clear hK
    refine hK _ ?_; clear hK K
    (refine awp_reg_seq [4] fun K hK => ?_; (repeat' ((refine al_r rfl fun K' hK' => ?_); (repeat (simp only [go_sem, simprocAttr, List.length_map])); ((refine hK' _ _ ?_) <;> clear hK' K'))); all_goals (refine al_nil ?_; (simp only [go_sem, simprocAttr, List.length_map]); refine hK _ ?_; clear hK K))
    all_goals (refine awp_ret ?_; (refine hR _ _ (.inl rfl) rfl ?_); (simp only [go_sem, simprocAttr, List.length_map, *, Bool.and_true, Bool.and_false, Bool.true_and, Bool.false_and, Bool.or_true, Bool.true_or, Bool.or_false, Bool.false_or, Bool.not_true, Bool.not_false, Bool.false_eq_true]; done))


theorem contains (ls : List Int) (hlen : ls.length ≤ maxLen) (v : Int) : ACallP Try.prog 32 [ints ls, iD v] (bD (decide (firstAt (fun n => v == n) ls ≥ 0))) := by
  have hix := indexI ls hlen v
  refine acallp_fn [4] Try.func32 rfl rfl Try.ntmps32 (by simp) fun R hR => ?_
  (refine awp_reg_seq [0, 1] fun K hK => ?_; (repeat' ((refine al_r rfl fun K' hK' => ?_); (repeat (simp only [go_sem, simprocAttr])); ((refine hK' _ _ ?_) <;> clear hK' K'))); all_goals (refine al_nil ?_; (simp only [go_sem, simprocAttr]); refine hK _ ?_; clear hK K))
  (refine awp_reg_seq [4] fun K hK => ?_; (repeat' ((refine al_r rfl fun K' hK' => ?_); (repeat (simp only [go_sem, simprocAttr])); (first | ((refine hK' _ _ ?_) <;> clear hK' K') | ((show AC _ _ (D.fn 65 _) _ _); refine acall_p (f := 65) (e := rfl) (hr := rfl) (k := hK' _ _ ?_) (hc := Try.call65) (h := hix); clear hK' K')))); all_goals (refine al_nil ?_; (simp only [go_sem, simprocAttr]); refine hK _ ?_; clear hK K))
  all_goals (refine awp_ret ?_; (refine hR _ _ (.inl rfl) rfl ?_); (simp only [go_sem, simprocAttr, *, Bool.and_true, Bool.and_false, Bool.true_and, Bool.false_and, Bool.or_true, Bool.true_or, Bool.or_false, Bool.false_or, Bool.not_true, Bool.not_false, Bool.false_eq_true]; done))

end Go.Proofs.Ytagphggcdmjlpaa.P

