/- Texts of this proof, one behind the other: FmtP, PrsP. -/
import Derived.Lib.ItoaLen
import Derived.Lib.AtoiAll
import Derived.Test.YtebcdjpddoaajaaDoorGs0
/- The texts of numbers, poses, factors, entries, bundles, as lists of bytes; how the two FormatInt build a numeral. No program in sight. -/
namespace Go.Proofs.YtebcdjpddoaajaaDoor
open Go.RowKit
set_option linter.unusedVariables false
set_option linter.unusedSimpArgs false
set_option maxRecDepth 100000

theorem bsz (l : List UInt8) : (ByteArray.mk l.toArray).size = l.length := by show l.toArray.size = _; simp
theorem bapp (x y : List UInt8) : (ByteArray.mk x.toArray ++ ByteArray.mk y.toArray) = ByteArray.mk (x ++ y).toArray := ByteArray.mk_append_mk x y
theorem bext {a b : ByteArray} (h : a.data.toList = b.data.toList) : a = b := by
  obtain ⟨⟨a⟩⟩ := a; obtain ⟨⟨b⟩⟩ := b
  simp only at h; subst h; rfl
def itoaB (n : Int) : ByteArray := ⟨(Lib.itoa n).toArray⟩
theorem itoaB_size {n : Int} (h0 : -9223372036854775808 ≤ n) (h1 : n ≤ 9223372036854775807) : (itoaB n).size ≤ 21 := by
  unfold itoaB; rw [bsz]; exact Lib.itoa_length_le n h0 h1

/-! ### the loop of FormatInt -/
/-- the numeral of N is that of n, then s -/
def ItoInv (N n : Nat) (s : ByteArray) : Prop := Lib.decDigits N = Lib.decDigits n ++ s.data.toList
theorem ItoInv.start (N : Nat) : ItoInv N N ⟨#[]⟩ := by simp [ItoInv]
theorem ItoInv.next {N n : Nat} {s t : ByteArray} (h : ItoInv N n s) (hn : 9 < n) (ht : t = ⟨#[UInt8.ofNat (48 + n % 10)]⟩ ++ s) : ItoInv N (n / 10) t := by
  subst ht
  unfold ItoInv at *
  rw [h, Lib.decDigits, dif_neg (by omega)]
  simp [ByteArray.data_append]
theorem ItoInv.done {N n : Nat} {s : ByteArray} (h : ItoInv N n s) (hn : n ≤ 9) : (ByteArray.mk #[UInt8.ofNat (48 + n)]) ++ s = itoaB (N : Int) := by
  apply bext
  have e : Lib.decDigits n = [UInt8.ofNat (48 + n)] := Lib.decDigits_one (by omega)
  unfold ItoInv at h
  rw [e] at h
  rw [ByteArray.data_append, Array.toList_append]
  show _ = (Lib.itoa (N : Int)).toArray.toList
  rw [Lib.itoa_nonneg, h]
theorem ItoInv.size {N n : Nat} {s : ByteArray} (h : ItoInv N n s) (hN : N ≤ 9223372036854775807) : s.size ≤ 21 := by
  have h1 := Lib.itoa_length_le (N : Int) (by omega) (by omega)
  rw [Lib.itoa_nonneg] at h1
  unfold ItoInv at h
  rw [h, List.length_append] at h1
  show s.data.size ≤ 21
  rw [← Array.length_toList]
  omega
theorem itoa_neg1 {n : Int} (h0 : n < 0) (h1 : -10 < n) : itoaB n = ⟨#[45]⟩ ++ ⟨#[UInt8.ofNat (48 - n).toNat]⟩ := by
  apply bext
  obtain ⟨u, rfl⟩ : ∃ u : Nat, n = -(u : Int) := ⟨n.natAbs, by omega⟩
  have e : (48 - -(u : Int)).toNat = 48 + u := by omega
  rw [ByteArray.data_append, Array.toList_append, e]
  show (Lib.itoa (-(u : Int))).toArray.toList = _
  rw [Lib.itoa_neg u (by omega), Lib.decDigits_one (show u < 10 by omega)]
  rfl
theorem itoa_neg2 {n : Int} (h0 : n ≤ -10) : itoaB n = itoaB (n.tdiv 10) ++ ⟨#[UInt8.ofNat (48 - n.tmod 10).toNat]⟩ := by
  apply bext
  obtain ⟨u, rfl⟩ : ∃ u : Nat, n = -(u : Int) := ⟨n.natAbs, by omega⟩
  have e1 : (-(u : Int)).tdiv 10 = -((u / 10 : Nat) : Int) := by rw [Int.neg_tdiv]; rfl
  have e2 : (-(u : Int)).tmod 10 = -((u % 10 : Nat) : Int) := by rw [Int.neg_tmod]; rfl
  have e : (48 - (-(u : Int)).tmod 10).toNat = 48 + u % 10 := by rw [e2]; omega
  have hd : Lib.decDigits u = Lib.decDigits (u / 10) ++ [UInt8.ofNat (48 + u % 10)] := by rw [Lib.decDigits, dif_neg (by omega)]
  rw [ByteArray.data_append, Array.toList_append, e1, e]
  show (Lib.itoa (-(u : Int))).toArray.toList = (Lib.itoa (-((u / 10 : Nat) : Int))).toArray.toList ++ _
  rw [Lib.itoa_neg u (by omega), Lib.itoa_neg (u / 10) (by omega), hd]
  rfl

/-! ### the texts -/
def turnB (t : Int) : UInt8 := ([101, 110, 119, 115] : List UInt8).getD t.toNat 0
def poseL (t x y : Int) : List UInt8 := Lib.itoa x ++ 44 :: (Lib.itoa y ++ [44, turnB t])
def fmtPose (t x y : Int) : ByteArray := if vldPose t x y then ⟨(poseL t x y).toArray⟩ else ⟨#[]⟩
def kindL (k : Int) : List UInt8 := if k = 1 then [112, 114, 105, 111, 114] else if k = 2 then [111, 100, 111, 109, 101, 116, 114, 121] else if k = 3 then [108, 97, 110, 100, 109, 97, 114, 107] else [108, 111, 111, 112]
def frmL (k : Int) (fr : ByteArray) : List UInt8 := if k = 1 then [] else fr.data.toList ++ [32]
def facL (f : Factor) : List UInt8 := kindL f.kind ++ 32 :: (Lib.itoa f.id ++ 32 :: (frmL f.kind f.frm ++ (f.to.data.toList ++ 32 :: (poseL f.pose.turn f.pose.x f.pose.y ++ 32 :: Lib.itoa f.weight))))
def fmtFac (f : Factor) : ByteArray := if vldFactor f then ⟨(facL f).toArray⟩ else ⟨#[]⟩
def entL (e : Entry) : List UInt8 := if e.remove then [114, 101, 109, 111, 118, 101, 32] ++ Lib.itoa e.id else [97, 100, 100, 32] ++ facL e.factor
def entSum (e : Entry) (p : Int) : Int := chk ⟨(Lib.itoa p ++ 32 :: entL e).toArray⟩
def entT (e : Entry) (p : Int) : ByteArray := ⟨(entL e ++ 32 :: 35 :: (Lib.itoa (entSum e p) ++ [10])).toArray⟩
def fmtEnt (e : Entry) (p : Int) : ByteArray × Int := if vldEntry e && inR p 0 65520 then (entT e p, entSum e p) else (⟨#[]⟩, 0)
def facsL : List Factor → List UInt8 | [] => [] | f :: l => 59 :: (facL f ++ facsL l)
def bunT (r : Int) (l : List Factor) : ByteArray := ⟨([98, 117, 110, 100, 108, 101, 32] ++ (Lib.itoa r ++ facsL l)).toArray⟩
def digL : List Factor → List UInt8 | [] => [] | f :: l => (fmtFac f).data.toList ++ 10 :: digL l
def digest (l : List Factor) : Int := chk ⟨(digL l).toArray⟩
def jrn : List Entry → Int → ByteArray → ByteArray
  | [], _, s => s
  | e :: l, p, s => if (vldEntry e && inR p 0 65520) = true then jrn l (entSum e p) (s ++ entT e p) else ⟨#[]⟩
def jrnOf (l : List Entry) : ByteArray := if l.length ≤ 60 then jrn l 1 ⟨#[]⟩ else ⟨#[]⟩
def pktL (n : Int) (t : ByteArray) (ack : Bool) : List UInt8 := Lib.itoa n ++ 32 :: (t.data.toList ++ if ack then [32, 97, 99, 107] else [])
def pktSum (n : Int) (t : ByteArray) (ack : Bool) : Int := chk ⟨(pktL n t ack).toArray⟩

/-! ### their lengths -/
theorem itoa_len {n lo hi : Int} (h : inR n lo hi = true) (h0 : -9223372036854775808 ≤ lo) (h1 : hi ≤ 9223372036854775807) : (Lib.itoa n).length ≤ 21 := by
  have := inR_iff.1 h
  exact Lib.itoa_length_le n (by omega) (by omega)
theorem kindL_len (k : Int) : (kindL k).length ≤ 8 := by unfold kindL; repeat (first | (split; decide) | decide | split)
theorem pose_len {t x y : Int} (h : vldPose t x y = true) : (poseL t x y).length ≤ 45 := by
  unfold vldPose at h
  simp only [Bool.and_eq_true] at h
  have := itoa_len h.2.1 (by omega) (by omega)
  have := itoa_len h.2.2 (by omega) (by omega)
  simp [poseL]; omega
theorem vld_parts {f : Factor} (h : vldFactor f = true) : inR f.id 0 99999 = true ∧ inR f.weight 1 9999 = true ∧ vldPose f.pose.turn f.pose.x f.pose.y = true ∧ (f.kind = 1 ∨ f.kind = 2 ∨ f.kind = 3 ∨ f.kind = 4) ∧ (f.kind = 1 → f.frm.toList = []) ∧ (f.kind ≠ 1 → isPoseNm f.frm = true) ∧ (isPoseNm f.to = true ∨ isLandNm f.to = true) := by
  unfold vldFactor vldF at h
  simp only [Bool.and_eq_true] at h
  obtain ⟨h1, h2, h3, h4⟩ := h
  refine ⟨h1, h3, h2, ?_⟩
  by_cases k1 : f.kind = 1
  · rw [if_pos k1] at h4
    simp only [Bool.and_eq_true] at h4
    exact ⟨.inl k1, fun _ => by simpa using h4.1, fun c => absurd k1 c, .inl h4.2⟩
  rw [if_neg k1] at h4
  by_cases k2 : f.kind = 2 ∨ f.kind = 4
  · rw [if_pos k2] at h4
    simp only [Bool.and_eq_true] at h4
    exact ⟨by omega, fun c => absurd c k1, fun _ => h4.1, .inl h4.2.1⟩
  rw [if_neg k2] at h4
  by_cases k3 : f.kind = 3
  · rw [if_pos k3] at h4
    simp only [Bool.and_eq_true] at h4
    exact ⟨by omega, fun c => absurd c k1, fun _ => h4.1, .inr h4.2.1⟩
  · rw [if_neg k3] at h4; cases h4
end Go.Proofs.YtebcdjpddoaajaaDoor

/- Reading back what was written: numerals, words between signs. No program in sight. -/
namespace Go.Proofs.YtebcdjpddoaajaaDoor
open Go.RowKit
set_option linter.unusedVariables false
set_option linter.unusedSimpArgs false
set_option maxRecDepth 100000

/-! ### numerals -/
theorem pu_snoc : ∀ (l : List UInt8) (acc : Nat) (c : UInt8), Lib.parseUint10 acc (l ++ [c]) = match Lib.parseUint10 acc l with | .ok v => Lib.parseUint10 v [c] | r => r
  | [], acc, c => by simp only [List.nil_append]; conv => rhs; rw [Lib.parseUint10]
  | x :: l, acc, c => by
    simp only [List.cons_append, Lib.parseUint10]
    split
    · split
      · rfl
      · split
        · rfl
        · exact pu_snoc l _ c
    · rfl
theorem dig_nat {d : Nat} (h : d < 10) : (UInt8.ofNat (48 + d)).toNat = 48 + d := by
  simp only [UInt8.toNat_ofNat']
  omega
theorem pu_dec : ∀ (u : Nat), u < 18446744073709551616 → Lib.parseUint10 0 (Lib.decDigits u) = .ok u := by
  intro u
  induction u using Nat.strongRecOn with
  | _ u ih =>
    intro hu
    by_cases h : u < 10
    · rw [Lib.decDigits_one h]
      simp only [Lib.parseUint10, dig_nat h]
      rw [if_pos ⟨by omega, by omega⟩, if_neg (by omega), if_neg (by omega)]
      congr 1; omega
    · have e : Lib.decDigits u = Lib.decDigits (u / 10) ++ [UInt8.ofNat (48 + u % 10)] := by rw [Lib.decDigits, dif_neg h]
      rw [e, pu_snoc, ih (u / 10) (by omega) (by omega)]
      have hd : u % 10 < 10 := by omega
      simp only [Lib.parseUint10, dig_nat hd]
      rw [if_pos ⟨by omega, by omega⟩, if_neg (by omega), if_neg (by omega)]
      congr 1; omega
theorem dec_digits : ∀ (u : Nat), ∀ b ∈ Lib.decDigits u, 48 ≤ b.toNat ∧ b.toNat ≤ 57 := by
  intro u
  induction u using Nat.strongRecOn with
  | _ u ih =>
    intro b hb
    by_cases h : u < 10
    · rw [Lib.decDigits_one h] at hb
      simp only [List.mem_singleton] at hb
      subst hb
      rw [dig_nat h]; omega
    · rw [Lib.decDigits, dif_neg h] at hb
      rcases List.mem_append.1 hb with hb | hb
      · exact ih (u / 10) (by omega) b hb
      · simp only [List.mem_singleton] at hb
        subst hb
        rw [dig_nat (by omega)]; omega
theorem dec_ne (u : Nat) : Lib.decDigits u ≠ [] := by
  rw [Lib.decDigits]
  split <;> simp
/-- the signs of a numeral -/
theorem itoa_signs (n : Int) : ∀ b ∈ Lib.itoa n, b.toNat = 45 ∨ (48 ≤ b.toNat ∧ b.toNat ≤ 57) := by
  intro b hb
  by_cases h : 0 ≤ n
  · obtain ⟨u, rfl⟩ := Int.eq_ofNat_of_zero_le h
    rw [show ((u : Nat) : Int) = (u : Int) from rfl, Lib.itoa_nonneg] at hb
    exact .inr (dec_digits u b hb)
  · obtain ⟨u, rfl⟩ : ∃ u : Nat, n = -(u : Int) := ⟨n.natAbs, by omega⟩
    rw [Lib.itoa_neg u (by omega)] at hb
    rcases List.mem_cons.1 hb with rfl | hb
    · exact .inl rfl
    · exact .inr (dec_digits u b hb)
theorem itoa_ne (n : Int) : Lib.itoa n ≠ [] := by
  by_cases h : 0 ≤ n
  · obtain ⟨u, rfl⟩ := Int.eq_ofNat_of_zero_le h
    rw [show ((u : Nat) : Int) = (u : Int) from rfl, Lib.itoa_nonneg]
    exact dec_ne u
  · obtain ⟨u, rfl⟩ : ∃ u : Nat, n = -(u : Int) := ⟨n.natAbs, by omega⟩
    rw [Lib.itoa_neg u (by omega)]
    simp
/-- strconv.Atoi reads a numeral back -/
theorem atoi_itoa {n : Int} (h0 : -9223372036854775808 ≤ n) (h1 : n ≤ 9223372036854775807) : Lib.atoiAll (Lib.itoa n) = .ok n := by
  by_cases h : 0 ≤ n
  · obtain ⟨u, rfl⟩ := Int.eq_ofNat_of_zero_le h
    have e : Lib.itoa (u : Int) = Lib.decDigits u := Lib.itoa_nonneg u
    rw [e]
    have hp := pu_dec u (by omega)
    obtain ⟨c, r, hcr⟩ : ∃ c r, Lib.decDigits u = c :: r := by
      cases hd : Lib.decDigits u with
      | nil => exact absurd hd (dec_ne u)
      | cons c r => exact ⟨c, r, rfl⟩
    have hc := dec_digits u c (by rw [hcr]; simp)
    rw [hcr] at hp ⊢
    unfold Lib.atoiAll Lib.parseMag
    simp only
    rw [if_neg (show ¬ (c.toNat = 43 ∨ c.toNat = 45) by omega), if_neg (by simp), hp]
    simp only
    rw [if_neg (by omega), if_neg (by omega), if_neg (by omega)]
  · obtain ⟨u, rfl⟩ : ∃ u : Nat, n = -(u : Int) := ⟨n.natAbs, by omega⟩
    rw [Lib.itoa_neg u (by omega)]
    have hp := pu_dec u (by omega)
    unfold Lib.atoiAll Lib.parseMag
    simp only
    rw [if_pos (show ((45 : UInt8).toNat = 43 ∨ (45 : UInt8).toNat = 45) from .inr rfl), if_neg (dec_ne u), hp]
    simp only
    have h45 : (45 : UInt8).toNat = 45 := rfl
    rw [if_neg (by omega), if_neg (by omega), if_pos h45]
theorem itoa_inj {n m : Int} (h0 : -9223372036854775808 ≤ n) (h1 : n ≤ 9223372036854775807) (g0 : -9223372036854775808 ≤ m) (g1 : m ≤ 9223372036854775807) (h : Lib.itoa n = Lib.itoa m) : n = m := by
  have a := atoi_itoa h0 h1
  rw [h, atoi_itoa g0 g1] at a
  injection a with a
  exact a.symm

/-! ### words -/
def splitL (p : UInt8 → Bool) : List UInt8 → List UInt8 → List (List UInt8)
  | cur, [] => [cur]
  | cur, b :: r => if p b = true then cur :: splitL p [] r else splitL p (cur ++ [b]) r
theorem splitL_word {p : UInt8 → Bool} {sep : UInt8} (hs : p sep = true) : ∀ (w cur r : List UInt8), (∀ b ∈ w, p b = false) → splitL p cur (w ++ sep :: r) = (cur ++ w) :: splitL p [] r
  | [], cur, r, _ => by simp [splitL, hs]
  | b :: w, cur, r, h => by
    have hb := h b (by simp)
    have ih := splitL_word hs w (cur ++ [b]) r fun x hx => h x (by simp [hx])
    simp only [List.cons_append, splitL, hb]
    rw [if_neg (by decide), ih]
    simp
theorem splitL_last {p : UInt8 → Bool} : ∀ (w cur : List UInt8), (∀ b ∈ w, p b = false) → splitL p cur w = [cur ++ w]
  | [], cur, _ => by simp [splitL]
  | b :: w, cur, h => by
    have hb := h b (by simp)
    have ih := splitL_last w (cur ++ [b]) fun x hx => h x (by simp [hx])
    simp only [splitL, hb]
    rw [if_neg (by decide), ih]
    simp
theorem splitL_ne (p : UInt8 → Bool) : ∀ (l cur : List UInt8), splitL p cur l ≠ []
  | [], cur => by simp [splitL]
  | b :: l, cur => by
    rw [splitL]
    split
    · simp
    · exact splitL_ne p l _
end Go.Proofs.YtebcdjpddoaajaaDoor
