/- Who is told: plain facts. -/
import Derived.Test.YtfjfiemcdnicoaaK8
set_option linter.unusedSimpArgs false
set_option linter.unusedVariables false
namespace Go.Proofs.Ytfjfiemcdnicoaa.P
open Go.Ab Go.Proofs.Ytfjfiemcdnicoaa.T
open Go.Proofs.Ytfjfiemcdnicoaa.PL (Letter)

def Rise (ls : List Row) : Prop := ∀ (i j : Nat) x y, i < j → ls[i]? = some x → ls[j]? = some y → x.ref < y.ref

theorem scanR_ok {all : List Row} (h2 : ∀ (k : Nat) x, all[k]? = some x → badRow x = false ∧ dupF x.links 0 x.links = false) (h3 : Rise all) : ∀ (l : List Row) (i : Nat), all.drop i = l → scanR all i l = 0
  | [], _, _ => rfl
  | r :: l, i, hd => by
    have hi : all[i]? = some r := by have := congrArg (·[0]?) hd; simpa using this
    obtain ⟨hb, hdup⟩ := h2 i r hi
    have ho : ordBad all i r = false := by
      cases i with
      | zero => rfl
      | succ k =>
        obtain ⟨p, hp⟩ := get_of_lt (l := all) (i := k) (by have := lt_of_get hi; omega)
        have := h3 k (k + 1) p r (by omega) hp hi
        simp only [ordBad, hp]
        simp; omega
    unfold scanR
    rw [if_neg (by rw [hb]; simp), if_neg (by rw [ho]; simp), if_neg (by rw [hdup]; simp)]
    exact scanR_ok h2 h3 l (i + 1) (by rw [← List.drop_drop, hd]; rfl)

theorem check_of {ls : List Row} (h1 : ls.length ≤ 100) (h2 : ∀ (k : Nat) x, ls[k]? = some x → badRow x = false ∧ dupF x.links 0 x.links = false) (h3 : Rise ls) : checkR ls = 0 := by
  unfold checkR
  rw [if_neg (by simp; omega)]
  exact scanR_ok h2 h3 ls 0 (by simp)

theorem erase_get {α : Type} {l : List α} {i k : Nat} {x : α} (h : (l.eraseIdx i)[k]? = some x) : ∃ j, j ≠ i ∧ l[j]? = some x ∧ (k < i → j = k) ∧ (i ≤ k → j = k + 1) := by
  rw [List.getElem?_eraseIdx] at h
  split at h
  · exact ⟨k, by omega, h, fun _ => rfl, by omega⟩
  · exact ⟨k + 1, by omega, h, by omega, fun _ => rfl⟩

theorem erase_check {ls : List Row} (h : checkR ls = 0) (i : Nat) : checkR (ls.eraseIdx i) = 0 := by
  obtain ⟨h1, h2, h3⟩ := check_ok h
  refine check_of (Nat.le_trans (List.length_eraseIdx_le ls i) h1) (fun k x hx => ?_) (fun a b x y hab hx hy => ?_)
  · obtain ⟨j, _, hj, _⟩ := erase_get hx
    exact h2 j x hj
  · obtain ⟨j, _, hj, e1, e2⟩ := erase_get hx
    obtain ⟨k, _, hk, e3, e4⟩ := erase_get hy
    refine h3 j k x y ?_ hj hk
    rcases Nat.lt_or_ge a i with g1 | g1 <;> rcases Nat.lt_or_ge b i with g2 | g2
    · rw [e1 g1, e3 g2]; exact hab
    · rw [e1 g1, e4 g2]; omega
    · omega
    · rw [e2 g1, e4 g2]; omega

theorem no_at {ls : List Row} {ref : Int} (h : ∀ (k : Nat) x, ls[k]? = some x → x.ref ≠ ref) : isAt (byRef ref) ls = false := by
  unfold isAt
  split
  · rename_i x hx
    have := h _ x hx
    cases hb : (byRef ref x == 0) with
    | false => rfl
    | true => exact absurd (cmp_zero.1 hb) this
  · rfl

theorem find_at {ls : List Row} (h : Rise ls) {i : Nat} {r : Row} (hr : ls[i]? = some r) : findS ls r.ref = i :=
  firstAt_at (fun j hj y hy => by have := h j i y r hj hy hr; simp; omega) hr (by simp)

theorem out_dst (r : Row) (ref num : Int) (failed : Bool) (tx : ByteArray) : (outL r ref num failed tx).map Letter.dst = r.watches ++ if failed then r.links else [] := by
  unfold outL
  rw [List.map_append, List.map_map]
  congr 1
  · exact List.map_id'' (fun _ => rfl) _
  · cases failed with
    | false => rfl
    | true => simp only [if_true, List.map_map]; exact List.map_id'' (fun _ => rfl) _

theorem out_kinds (r : Row) (ref num : Int) (failed : Bool) (tx : ByteArray) : ∀ x, x ∈ outL r ref num failed tx → x.src = ref ∧ (x.kind = 2 ∨ x.kind = 5 ∧ failed = true) := by
  intro x hx
  unfold outL at hx
  rcases List.mem_append.1 hx with hx | hx
  · obtain ⟨y, _, rfl⟩ := List.mem_map.1 hx; exact ⟨rfl, .inl rfl⟩
  · cases failed with
    | false => cases hx
    | true =>
      simp only [if_true] at hx
      obtain ⟨y, _, rfl⟩ := List.mem_map.1 hx; exact ⟨rfl, .inr ⟨rfl, rfl⟩⟩

theorem toldTrue (ls : List Row) (ref : Int) (failed : Bool) (text : ByteArray) (hlen : ls.length ≤ maxLen) : ACallP Try.prog 4 [rows ls, iD ref, bD failed, .p (.lit (.string text))] (bD true) := by
  have hg := gone ls ref failed text hlen
  by_cases he : (thereS ls ref).2 = 0
  · obtain ⟨hck, i, r, hp, hget, href⟩ := there_ok he
    obtain ⟨h100, hrows, hrise⟩ := check_ok hck
    have e1 : goneS ls ref failed text = (ls.eraseIdx i, outL r ref (if failed then 1 else 0) failed (if failed then text else ⟨#[]⟩), 0) := by
      unfold goneS
      rw [if_neg (by rw [he]; simp), hp, Int.toNat_natCast, hget]
    rw [e1] at hg
    have hck2 := erase_check hck i
    have hg2 := gone (ls.eraseIdx i) ref failed text (Nat.le_trans (List.length_eraseIdx_le ls i) hlen)
    have e2 : thereS (ls.eraseIdx i) ref = (0, 4) := by
      unfold thereS
      rw [if_neg (by rw [hck2]; simp), no_at]
      · rfl
      intro k x hx hxr
      obtain ⟨j, hne, hj, _⟩ := erase_get hx
      rcases Nat.lt_trichotomy j i with h | h | h
      · have := hrise j i x r h hj hget; omega
      · exact hne h
      · have := hrise i j r x h hget hj; omega
    have e3 : goneS (ls.eraseIdx i) ref failed text = ([], [], 4) := by
      unfold goneS
      rw [e2]
      rfl
    rw [e3] at hg2
    have hb := (hrows i r hget).1
    unfold badRow at hb
    simp at hb
    have hil := lt_of_get hget
    have hol := congrArg List.length (out_dst r ref (if failed then 1 else 0) failed (if failed then text else ⟨#[]⟩))
    rw [List.length_map] at hol
    refine toldGood ls _ _ ref failed text i r (by omega) hget (by rw [← href]; exact find_at hrise hget) hg hg2 ?_ (by omega) (by omega) (out_kinds _ _ _ _ _) (out_dst _ _ _ _ _) ?_
    · rw [hol]; cases failed <;> simp <;> omega
    · rw [List.length_eraseIdx, if_pos hil, wrap_small (by omega) (by omega)]
      simp; omega
  · have e1 : goneS ls ref failed text = ([], [], (thereS ls ref).2) := by
      unfold goneS
      rw [if_pos (by simpa using he)]
    rw [e1] at hg
    exact toldBad ls ref _ failed text hlen (by simpa using he) hg
end Go.Proofs.Ytfjfiemcdnicoaa.P
