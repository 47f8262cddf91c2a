/- Texts of this proof, one behind the other: Nums. -/
import Derived.Laws.BitsAllLaws
import Derived.Laws.BitsLemmas
import Derived.Test.YtebcdjpddoaajaaGreatDoorGs0
import Derived.Test.YtebcdjpddoaajaaGreatDoorGs1
/- Checksum, ChunkOf, BitDistance: what the two of each answer; their laws' walks. -/
namespace Go.Proofs.YtebcdjpddoaajaaGreatDoor
open Go.RowKit
set_option linter.unusedVariables false
set_option linter.unusedSimpArgs false
set_option maxHeartbeats 400000

/-- the checksum of bytes, from h on -/
def chkL : List UInt8 → Int → Int
  | [], h => h
  | b :: r, h => chkL r ((31 * h + (b.toNat : Int)) % 65521)
def chk (s : ByteArray) : Int := chkL s.data.toList 7
def ChkInv (s : ByteArray) (k : Nat) (h : Int) : Prop := chk s = chkL (s.data.toList.drop k) h
theorem chk_next {s : ByteArray} {k : Nat} {h : Int} (hi : ChkInv s k h) (hk : k < s.size) : ChkInv s (k + 1) ((31 * h + (s[k].toNat : Int)) % 65521) := by
  unfold ChkInv at *
  rw [hi, sdrop s hk, chkL]
theorem chk_end {s : ByteArray} {k : Nat} {h : Int} (hi : ChkInv s k h) (hk : ¬ k < s.size) : h = chk s := by
  unfold ChkInv at *
  rw [hi, List.drop_eq_nil_of_le (by simp; omega), chkL]
theorem chkL_bound : ∀ (l : List UInt8) (h : Int), 0 ≤ h → h ≤ 65520 → 0 ≤ chkL l h ∧ chkL l h ≤ 65520
  | [], h, h0, h1 => ⟨h0, h1⟩
  | b :: r, h, h0, h1 => by rw [chkL]; exact chkL_bound r _ (by omega) (by omega)
theorem chk_bound (s : ByteArray) : 0 ≤ chk s ∧ chk s ≤ 65520 := chkL_bound _ _ (by omega) (by omega)
theorem spec_Checksum_c (s : ByteArray) (w : World) (hs : s.size ≤ 1073741824) : Calls Tryz.prog 104 #[.string s] w fun e w' => e = rInt (chk s) ∧ w = w' := by
  go_enter Tryz.func104, Tryz.ntmps104
  go_wp2
  go_loop [3, 4] (fun h i => ∃ (k : Nat) (q : Int), k ≤ s.size ∧ i = .int .i64 k ∧ h = .int .i64 q ∧ 0 ≤ q ∧ q ≤ 65520 ∧ ChkInv s k q) (fun _ i => s.size - (intOf i).toNat)
  case atStart => exact ⟨0, 7, by omega, rfl, rfl, by omega, by omega, rfl⟩
  case round =>
    obtain ⟨k, q, hk, rfl, rfl, hq0, hq1, hi⟩ := hrel
    by_cases hlt : k < s.size
    · have hn := chk_next hi hlt
      have hb := s[k].toNat_lt
      go_wp2
      go_round
      case rel => exact ⟨k + 1, (31 * q + (s[k].toNat : Int)) % 65521, by omega, by go_num, rfl, by omega, by omega, hn⟩
      case measure => simp [intOf]; omega
    · have he := Lib.hid (chk_end hi hlt)
      go_wp2
      go_ret
      exact ⟨by rw [← he.out]; rfl, rfl⟩
theorem impl_Checksum_c (s : ByteArray) (w : World) (hs : s.size ≤ 1073741824) : Calls Tryz.prog 44 #[.string s] w fun e w' => e = rInt (chk s) ∧ w = w' := by
  go_enter Tryz.func44, Tryz.ntmps44
  go_wp2
  go_loop [3, 4] (fun h i => ∃ (k : Nat) (q : Int), k ≤ s.size ∧ i = .int .i64 k ∧ h = .int .i64 q ∧ 0 ≤ q ∧ q ≤ 65520 ∧ ChkInv s k q) (fun _ i => s.size - (intOf i).toNat)
  case atStart => exact ⟨0, 7, by omega, rfl, rfl, by omega, by omega, rfl⟩
  case round =>
    obtain ⟨k, q, hk, rfl, rfl, hq0, hq1, hi⟩ := hrel
    by_cases hlt : k < s.size
    · have hn := chk_next hi hlt
      have hb := s[k].toNat_lt
      go_wp2
      go_round
      case rel => exact ⟨k + 1, (31 * q + (s[k].toNat : Int)) % 65521, by omega, by go_num, rfl, by omega, by omega, hn⟩
      case measure => simp [intOf]; omega
    · have he := Lib.hid (chk_end hi hlt)
      go_wp2
      go_ret
      exact ⟨by rw [← he.out]; rfl, rfl⟩


/-! ### bits -/
theorem ofInt_i64 (a : Nat) (ha : a < 9223372036854775808) : (BitVec.ofInt 64 (a : Int)).toNat = a := by
  rw [BitVec.ofInt_natCast, BitVec.toNat_ofNat]; exact Nat.mod_eq_of_lt (by omega)
theorem i64_and_nat (a b : Nat) (ha : a < 9223372036854775808) (hb : b < 9223372036854775808) : bits .and .i64 (a : Int) (b : Int) = ((a &&& b : Nat) : Int) := by
  have hx : a &&& b < 2 ^ 63 := Nat.and_lt_two_pow _ (by omega)
  show IntKind.i64.wrap ((BitVec.ofInt 64 (a : Int) &&& BitVec.ofInt 64 (b : Int)).toNat : Int) = _
  rw [BitVec.toNat_and, ofInt_i64 a ha, ofInt_i64 b hb, IntKind.wrap_i64]
  omega
theorem i64_xor_nat (a b : Nat) (ha : a < 9223372036854775808) (hb : b < 9223372036854775808) : bits .xor .i64 (a : Int) (b : Int) = ((a ^^^ b : Nat) : Int) := by
  have hx : a ^^^ b < 2 ^ 63 := Nat.xor_lt_two_pow (by omega) (by omega)
  show IntKind.i64.wrap ((BitVec.ofInt 64 (a : Int) ^^^ BitVec.ofInt 64 (b : Int)).toNat : Int) = _
  rw [BitVec.toNat_xor, ofInt_i64 a ha, ofInt_i64 b hb, IntKind.wrap_i64]
  omega
theorem and1023 (n : Int) (h0 : 0 ≤ n) (h1 : n ≤ 1073741823) : bits .and .i64 n 1023 = n % 1024 := by
  obtain ⟨a, rfl⟩ := Int.eq_ofNat_of_zero_le h0
  have := i64_and_nat a 1023 (by omega) (by omega)
  rw [show ((1023 : Nat) : Int) = 1023 from rfl] at this
  rw [this, show (1023 : Nat) = 2 ^ 10 - 1 from rfl, Nat.and_two_pow_sub_one_eq_mod]
  omega

/-- chunk k of a description -/
def chunkV (b k : Int) : Int := if inR b 0 1073741823 && inR k 0 2 then b / (1024 : Int) ^ k.toNat % 1024 else -1
theorem chunkV_no {b k : Int} (h : ¬ (0 ≤ b ∧ b ≤ 1073741823) ∨ ¬ (0 ≤ k ∧ k ≤ 2)) : Hid (chunkV b k = -1) := by
  have : (inR b 0 1073741823 && inR k 0 2) = false := by
    rw [Bool.and_eq_false_iff]
    rcases h with h | h
    · left; simpa [inR] using h
    · right; simpa [inR] using h
  simp [Hid, chunkV, this]
theorem chunkV_yes {b k : Int} (h0 : 0 ≤ b) (h1 : b ≤ 1073741823) (h2 : 0 ≤ k) (h3 : k ≤ 2) : Hid (chunkV b k = b / (1024 : Int) ^ k.toNat % 1024) := by
  have e1 : inR b 0 1073741823 = true := inR_iff.2 ⟨h0, h1⟩
  have e2 : inR k 0 2 = true := inR_iff.2 ⟨h2, h3⟩
  simp [Hid, chunkV, e1, e2]
theorem ret_eq {a b : Int} (h : Hid (b = a)) : Ending.returned (.int .i64 a) = rInt b := by rw [h.out]
def ChunkInv (b : Int) (k j : Nat) (q : Int) : Prop := b / (1024 : Int) ^ k = q / (1024 : Int) ^ j
theorem ChunkInv.next {b : Int} {k j : Nat} {q : Int} (h : ChunkInv b k (j + 1) q) (hq : 0 ≤ q) : ChunkInv b k j (q / 1024) := by
  unfold ChunkInv at *
  rw [h, Int.pow_succ, Int.mul_comm, Int.ediv_ediv_of_nonneg (by omega)]

/-- how many bits are set -/
def pop (x : Nat) : Nat := if x = 0 then 0 else x % 2 + pop (x / 2)
termination_by x
decreasing_by omega
def bitDist (a b : Int) : Int := if inR a 0 1073741823 && inR b 0 1073741823 then (pop (a.toNat ^^^ b.toNat) : Int) else -1
theorem bitDist_no {a b : Int} (h : ¬ ((0 ≤ a ∧ a ≤ 1073741823) ∧ (0 ≤ b ∧ b ≤ 1073741823))) : Hid (bitDist a b = -1) := by
  have : (inR a 0 1073741823 && inR b 0 1073741823) = false := by
    rw [Bool.and_eq_false_iff]
    rcases Decidable.not_and_iff_not_or_not.1 h with h | h
    · left; simpa [inR] using h
    · right; simpa [inR] using h
  simp [Hid, bitDist, this]
theorem bitDist_yes {a b : Int} (h0 : 0 ≤ a) (h1 : a ≤ 1073741823) (h2 : 0 ≤ b) (h3 : b ≤ 1073741823) : Hid (bitDist a b = (pop (a.toNat ^^^ b.toNat) : Int)) := by
  have e1 : inR a 0 1073741823 = true := inR_iff.2 ⟨h0, h1⟩
  have e2 : inR b 0 1073741823 = true := inR_iff.2 ⟨h2, h3⟩
  simp [Hid, bitDist, e1, e2]
theorem xor_bits {a b : Int} (h0 : 0 ≤ a) (h1 : a ≤ 1073741823) (h2 : 0 ≤ b) (h3 : b ≤ 1073741823) : ∃ X : Nat, bits .xor .i64 a b = (X : Int) ∧ X ≤ 1073741823 ∧ a.toNat ^^^ b.toNat = X := by
  obtain ⟨x, rfl⟩ := Int.eq_ofNat_of_zero_le h0
  obtain ⟨y, rfl⟩ := Int.eq_ofNat_of_zero_le h2
  refine ⟨x ^^^ y, i64_xor_nat x y (by omega) (by omega), ?_, by simp⟩
  have : x ^^^ y < 2 ^ 30 := Nat.xor_lt_two_pow (by omega) (by omega)
  omega
theorem pop_le (x : Nat) : pop x ≤ x := by
  induction x using Nat.strongRecOn with
  | _ x ih =>
    rw [pop]
    by_cases h : x = 0
    · simp [h]
    · rw [if_neg h]
      have := ih (x / 2) (by omega)
      omega
def PopInv (X N Y : Nat) : Prop := pop X = N + pop Y
theorem PopInv.start (X : Nat) : PopInv X 0 X := by simp [PopInv]
theorem PopInv.next {X N Y : Nat} (h : PopInv X N Y) (hp : 0 < Y) : PopInv X (N + Y % 2) (Y / 2) := by
  unfold PopInv at *
  rw [h, pop, if_neg (by omega)]; omega
theorem PopInv.le {X N Y : Nat} (h : PopInv X N Y) (hX : X ≤ 1073741823) : N ≤ 1073741823 := by
  unfold PopInv at h
  have := pop_le X
  omega
theorem PopInv.done {X N Y : Nat} (h : PopInv X N Y) (hY : Y = 0) : pop X = N := by
  unfold PopInv at h
  rw [h, hY, pop]; simp
end Go.Proofs.YtebcdjpddoaajaaGreatDoor
