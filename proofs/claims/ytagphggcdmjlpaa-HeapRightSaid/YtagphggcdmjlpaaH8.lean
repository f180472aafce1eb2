/- Objects are read as they were written: plain facts. -/
import Derived.Test.YtagphggcdmjlpaaH7
set_option linter.unusedSimpArgs false
set_option linter.unusedVariables false
set_option maxHeartbeats 1000000
namespace Go.Proofs.Ytagphggcdmjlpaa.P
open Go.Ab

theorem u64_small {n : Nat} (h : n < 18446744073709551616) : IntKind.u64.wrap (n : Int) = (n : Int) := by
  rw [IntKind.wrap_u64]; omega

theorem or_add {a b i : Nat} (h : b < 2 ^ i) : b ||| a * 2 ^ i = b + a * 2 ^ i := by
  have := Nat.shiftLeft_add_eq_or_of_lt h a
  rw [Nat.shiftLeft_eq] at this
  rw [Nat.or_comm, ← this]; omega

theorem right_kind {o : Obj} (h : rightS o = true) : ∃ k : Nat, o.kind = k ∧ 1 ≤ k ∧ k ≤ 5 := by
  unfold rightS at h
  simp only [Bool.and_eq_true, Bool.not_eq_true', Bool.or_eq_false_iff, decide_eq_false_iff_not] at h
  exact ⟨o.kind.toNat, by omega, by omega, by omega⟩

theorem head_val {o : Obj} (h : rightS o = true) {k : Nat} (hk : o.kind = k) (hk5 : k ≤ 5) : headS o = ((k + o.text.size * 256 + o.parts.length * 1048576 : Nat) : Int) := by
  obtain ⟨hs, hp⟩ := right_small h
  have e8 : (2 : Int) ^ min 8 64 = ((256 : Nat) : Int) := by decide
  have e20 : (2 : Int) ^ min 20 64 = ((1048576 : Nat) : Int) := by decide
  unfold headS
  rw [hk, e8, e20, u64_small (by omega), u64_small (by omega), u64_small (by omega), ← Int.natCast_mul, ← Int.natCast_mul, u64_small (by omega), u64_small (by omega)]
  rw [bits_or_u64_nat _ _ (by omega) (by omega)]
  have h1 := or_add (a := o.text.size) (b := k) (i := 8) (by omega)
  rw [show (2 : Nat) ^ 8 = 256 from rfl] at h1
  rw [h1, bits_or_u64_nat _ _ (by omega) (by omega)]
  have h2 := or_add (a := o.parts.length) (b := k + o.text.size * 256) (i := 20) (by omega)
  rw [show (2 : Nat) ^ 20 = 1048576 from rfl] at h2
  rw [h2]

theorem fdiv_nat (n : Nat) (k : Nat) : ((n : Nat) : Int).fdiv ((k : Nat) : Int) = ((n / k : Nat) : Int) := by
  rw [Int.fdiv_eq_ediv_of_nonneg _ (Int.natCast_nonneg k)]; rfl

theorem head_dec {o : Obj} (h : rightS o = true) : kN (headS o) = o.kind ∧ tN (headS o) = o.text.size ∧ pN (headS o) = o.parts.length ∧ (headS o).fdiv (2 ^ min 32 64) = 0 := by
  obtain ⟨k, hk, _, hk5⟩ := right_kind h
  obtain ⟨hs, hp⟩ := right_small h
  have e8 : (2 : Int) ^ min 8 64 = ((256 : Nat) : Int) := by decide
  have e20 : (2 : Int) ^ min 20 64 = ((1048576 : Nat) : Int) := by decide
  have e32 : (2 : Int) ^ min 32 64 = ((4294967296 : Nat) : Int) := by decide
  rw [head_val h hk hk5]
  have a255 : ∀ n : Nat, n &&& 255 = n % 256 := fun n => Nat.and_two_pow_sub_one_eq_mod n 8
  have a4095 : ∀ n : Nat, n &&& 4095 = n % 4096 := fun n => Nat.and_two_pow_sub_one_eq_mod n 12
  unfold kN tN pN
  rw [e8, e20, e32, fdiv_nat, fdiv_nat, fdiv_nat]
  have b1 := bits_and_u64_nat (k + o.text.size * 256 + o.parts.length * 1048576) 255 (by omega) (by omega)
  have b2 := bits_and_u64_nat ((k + o.text.size * 256 + o.parts.length * 1048576) / 256) 4095 (by omega) (by omega)
  have b3 := bits_and_u64_nat ((k + o.text.size * 256 + o.parts.length * 1048576) / 1048576) 4095 (by omega) (by omega)
  refine ⟨?_, ?_, ?_, ?_⟩
  · show IntKind.i64.wrap (bits .and .u64 _ ((255 : Nat) : Int)) = _
    rw [b1, a255, Go.Ab.wrap_small (by omega) (by omega), hk]; omega
  · show IntKind.i64.wrap (bits .and .u64 _ ((4095 : Nat) : Int)) = _
    rw [b2, a4095, Go.Ab.wrap_small (by omega) (by omega)]; omega
  · show IntKind.i64.wrap (bits .and .u64 _ ((4095 : Nat) : Int)) = _
    rw [b3, a4095, Go.Ab.wrap_small (by omega) (by omega)]; omega
  · omega

/-- The value of a byte of a text; none is nought. -/
def byteV (s : ByteArray) (i : Nat) : Nat := match s[i]? with | some b => b.toNat | none => 0
theorem byteV_lt (s : ByteArray) (i : Nat) : byteV s i < 256 := by
  unfold byteV
  split
  · exact UInt8.toNat_lt _
  · decide

def sumF (s : ByteArray) (i : Nat) : Nat → Nat → Nat
  | 0, _ => 0
  | m + 1, k => byteV s (i + k) * 2 ^ (8 * k) + sumF s i m (k + 1)

theorem orStep_val (s : ByteArray) (i : Nat) {k w : Nat} (hk : k < 8) (hw : w < 2 ^ (8 * k)) : orStep s i k (w : Int) = ((w + byteV s (i + k) * 2 ^ (8 * k) : Nat) : Int) ∧ w + byteV s (i + k) * 2 ^ (8 * k) < 2 ^ (8 * (k + 1)) := by
  have hb := byteV_lt s (i + k)
  have hpow : 2 ^ (8 * (k + 1)) = 256 * 2 ^ (8 * k) := by rw [Nat.mul_add, Nat.mul_one, Nat.pow_add, Nat.mul_comm]
  have hle : (2 : Nat) ^ (8 * (k + 1)) ≤ 2 ^ 64 := Nat.pow_le_pow_right (by decide) (by omega)
  have hprod : byteV s (i + k) * 2 ^ (8 * k) ≤ 255 * 2 ^ (8 * k) := Nat.mul_le_mul_right _ (by omega)
  have hlt : w + byteV s (i + k) * 2 ^ (8 * k) < 2 ^ (8 * (k + 1)) := by rw [hpow]; omega
  refine ⟨?_, hlt⟩
  have h64 : (2 : Nat) ^ 64 = 18446744073709551616 := rfl
  unfold orStep
  unfold byteV at hlt ⊢
  cases hsb : s[i + k]? with
  | none => simp
  | some b =>
    rw [hsb] at hlt
    simp only at hlt ⊢
    have hbl := UInt8.toNat_lt b
    have hmin : min (8 * k) 64 = 8 * k := by omega
    rw [hmin, u64_small (n := b.toNat) (by omega)]
    have hcast : ((b.toNat : Nat) : Int) * 2 ^ (8 * k) = ((b.toNat * 2 ^ (8 * k) : Nat) : Int) := by
      rw [Int.natCast_mul, Int.natCast_pow]; rfl
    rw [hcast, u64_small (by omega), bits_or_u64_nat _ _ (by omega) (by omega), or_add hw]

theorem orF_val (s : ByteArray) (i : Nat) : ∀ (m k w : Nat), k + m ≤ 8 → w < 2 ^ (8 * k) → orF s i m k (w : Int) = ((w + sumF s i m k : Nat) : Int)
  | 0, _, _, _, _ => rfl
  | m + 1, k, w, hk, hw => by
    obtain ⟨h1, h2⟩ := orStep_val s i (k := k) (by omega) hw
    show orF s i m (k + 1) (orStep s i k w) = _
    rw [h1, orF_val s i m (k + 1) _ (by omega) h2]
    show ((_ + _ : Nat) : Int) = ((w + (byteV s (i + k) * 2 ^ (8 * k) + sumF s i m (k + 1)) : Nat) : Int)
    rw [Nat.add_assoc]

theorem word_val (s : ByteArray) (i : Nat) : wordAt s i = ((sumF s i 8 0 : Nat) : Int) := by
  have := orF_val s i 8 0 0 (by omega) (by decide)
  rw [Nat.zero_add] at this
  exact this

theorem byte_dec (s : ByteArray) (i : Nat) {j : Nat} (hj : j < 8) : IntKind.u8.wrap ((wordAt s i).fdiv (2 ^ min (8 * j) 64)) = (byteV s (i + j) : Int) := by
  have hmin : min (8 * j) 64 = 8 * j := by omega
  have hp : (2 : Int) ^ (8 * j) = ((2 ^ (8 * j) : Nat) : Int) := by rw [Int.natCast_pow]; rfl
  rw [word_val, hmin, hp, fdiv_nat]
  have b0 := byteV_lt s (i + 0)
  have b1 := byteV_lt s (i + 1)
  have b2 := byteV_lt s (i + 2)
  have b3 := byteV_lt s (i + 3)
  have b4 := byteV_lt s (i + 4)
  have b5 := byteV_lt s (i + 5)
  have b6 := byteV_lt s (i + 6)
  have b7 := byteV_lt s (i + 7)
  have hs : sumF s i 8 0 = byteV s (i + 0) + byteV s (i + 1) * 256 + byteV s (i + 2) * 65536 + byteV s (i + 3) * 16777216 + byteV s (i + 4) * 4294967296 + byteV s (i + 5) * 1099511627776 + byteV s (i + 6) * 281474976710656 + byteV s (i + 7) * 72057594037927936 := by
    show byteV s (i + 0) * 2 ^ 0 + (byteV s (i + 1) * 2 ^ 8 + (byteV s (i + 2) * 2 ^ 16 + (byteV s (i + 3) * 2 ^ 24 + (byteV s (i + 4) * 2 ^ 32 + (byteV s (i + 5) * 2 ^ 40 + (byteV s (i + 6) * 2 ^ 48 + (byteV s (i + 7) * 2 ^ 56 + 0))))))) = _
    omega
  rw [hs]
  have hw : ∀ n : Nat, IntKind.u8.wrap (n : Int) = ((n % 256 : Nat) : Int) := fun n => by
    simp [IntKind.wrap, IntKind.bits, IntKind.signed]
  rw [hw]
  congr 1
  match j, hj with
  | 0, _ => simp only [Nat.mul_zero, Nat.pow_zero, Nat.div_one]; omega
  | 1, _ => rw [show (2 : Nat) ^ (8 * 1) = 256 from rfl]; omega
  | 2, _ => rw [show (2 : Nat) ^ (8 * 2) = 65536 from rfl]; omega
  | 3, _ => rw [show (2 : Nat) ^ (8 * 3) = 16777216 from rfl]; omega
  | 4, _ => rw [show (2 : Nat) ^ (8 * 4) = 4294967296 from rfl]; omega
  | 5, _ => rw [show (2 : Nat) ^ (8 * 5) = 1099511627776 from rfl]; omega
  | 6, _ => rw [show (2 : Nat) ^ (8 * 6) = 281474976710656 from rfl]; omega
  | 7, _ => rw [show (2 : Nat) ^ (8 * 7) = 72057594037927936 from rfl]; omega

theorem textF_get (s : ByteArray) : ∀ (m i q : Nat), q < m → (textF s m i)[q]? = some (wordAt s (i + 8 * q))
  | m + 1, i, 0, _ => rfl
  | m + 1, i, q + 1, h => by
    show (wordAt s i :: textF s m (i + 8))[q + 1]? = _
    rw [List.getElem?_cons_succ, textF_get s m (i + 8) q (by omega)]
    congr 2; omega

theorem bytes_dec (pre post : List Int) (s : ByteArray) : bytesN (pre ++ (textW s ++ post)) pre.length s.size = (List.range s.size).map fun i => (byteV s i : Int) := by
  unfold bytesN
  refine List.map_congr_left fun i hi => ?_
  have hi := List.mem_range.1 hi
  unfold byteN
  have hq : i / 8 < (s.size + 7) / 8 := by omega
  have h1 : (pre ++ (textW s ++ post)).getD (pre.length + i / 8) 0 = wordAt s (8 * (i / 8)) := by
    unfold List.getD
    rw [List.getElem?_append_right (by omega), Nat.add_sub_cancel_left, List.getElem?_append_left (by unfold textW; rw [textF_len]; exact hq)]
    unfold textW
    rw [textF_get s _ 0 _ hq, Nat.zero_add]; rfl
  rw [h1, byte_dec s _ (Nat.mod_lt _ (by decide))]
  congr 2; omega

theorem pushB_bytes (s : ByteArray) : pushB ((List.range s.size).map fun i => (byteV s i : Int)) = s := by
  unfold pushB
  rw [foldl_push_bytes]
  obtain ⟨data⟩ := s
  have hd : ((List.range (ByteArray.mk data).size).map fun i => (byteV ⟨data⟩ i : Int)).map (fun n => UInt8.ofNat n.toNat) = data.toList := by
    apply List.ext_getElem?
    intro i
    rw [List.getElem?_map, List.getElem?_map]
    by_cases h : i < data.size
    · rw [List.getElem?_range (show i < (ByteArray.mk data).size from h), Array.getElem?_toList, Array.getElem?_eq_getElem h]
      have : (ByteArray.mk data)[i]? = some data[i] := by
        rw [getElem?_pos (ByteArray.mk data) i h]; rfl
      simp [byteV, this]
    · rw [List.getElem?_eq_none (show (List.range (ByteArray.mk data).size).length ≤ i by rw [List.length_range]; exact Nat.le_of_not_lt h), Array.getElem?_toList, Array.getElem?_eq_none (by omega)]
      rfl
  rw [hd]
  show (ByteArray.mk (#[] ++ data.toList.toArray)) = _
  simp
end Go.Proofs.Ytagphggcdmjlpaa.P
