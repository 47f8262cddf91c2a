/- Index: the plain law: at a distance of two bits or less one of the three chunks is the same. -/
import Derived.Test.YtbfajhfmfdiacaaSIdx
namespace Go.Proofs.Ytbfajhfmfdiacaa
open Go.RowKit
set_option linter.unusedVariables false
set_option linter.unusedSimpArgs false
set_option maxHeartbeats 1600000
theorem pop_half (x : Nat) : pop x = x % 2 + pop (x / 2) := by
  by_cases h : x = 0
  · subst h; simp [pop]
  · rw [pop, if_neg h]
theorem pop_split : ∀ (k x : Nat), pop x = pop (x % 2 ^ k) + pop (x / 2 ^ k)
  | 0, x => by
    have h0 : pop 0 = 0 := by rw [pop]; simp
    simp [Nat.mod_one, h0]
  | k + 1, x => by
    rw [pop_half x, pop_split k (x / 2), pop_half (x % 2 ^ (k + 1))]
    have e1 : x % 2 ^ (k + 1) % 2 = x % 2 := Nat.mod_mod_of_dvd x (by rw [Nat.pow_succ]; exact Nat.dvd_mul_left _ _)
    have e2 : x % 2 ^ (k + 1) / 2 = x / 2 % 2 ^ k := by rw [Nat.pow_succ, Nat.mul_comm, Nat.mod_mul_right_div_self]
    have e3 : x / 2 / 2 ^ k = x / 2 ^ (k + 1) := by rw [Nat.div_div_eq_div_mul, Nat.pow_succ, Nat.mul_comm]
    rw [e1, e2, e3]; omega
theorem pop_pos {x : Nat} (h : x ≠ 0) : 1 ≤ pop x := by
  induction x using Nat.strongRecOn with
  | _ x ih =>
    rw [pop_half]
    by_cases h2 : x % 2 = 0
    · have := ih (x / 2) (by omega) (by omega); omega
    · omega
theorem xor_ne {a b : Nat} (h : a ≠ b) : a ^^^ b ≠ 0 := fun e => h (by
  have h2 : a ^^^ (a ^^^ b) = a ^^^ 0 := by rw [e]
  rw [← Nat.xor_assoc, Nat.xor_self, Nat.zero_xor, Nat.xor_zero] at h2
  exact h2.symm)
theorem pop_chunks {a b : Nat} (h0 : a % 1024 ≠ b % 1024) (h1 : a / 1024 % 1024 ≠ b / 1024 % 1024) (h2 : a / 1048576 ≠ b / 1048576) : 3 ≤ pop (a ^^^ b) := by
  have e0 : (a ^^^ b) % 2 ^ 10 = a % 2 ^ 10 ^^^ b % 2 ^ 10 := Nat.xor_mod_two_pow
  have e1 : (a ^^^ b) / 2 ^ 10 = a / 2 ^ 10 ^^^ b / 2 ^ 10 := Nat.xor_div_two_pow
  have e2 : (a / 2 ^ 10 ^^^ b / 2 ^ 10) % 2 ^ 10 = a / 2 ^ 10 % 2 ^ 10 ^^^ b / 2 ^ 10 % 2 ^ 10 := Nat.xor_mod_two_pow
  have e3 : (a / 2 ^ 10 ^^^ b / 2 ^ 10) / 2 ^ 10 = a / 2 ^ 10 / 2 ^ 10 ^^^ b / 2 ^ 10 / 2 ^ 10 := Nat.xor_div_two_pow
  rw [pop_split 10, e0, e1, pop_split 10 (a / 2 ^ 10 ^^^ b / 2 ^ 10), e2, e3]
  have p0 := pop_pos (xor_ne (a := a % 2 ^ 10) (b := b % 2 ^ 10) h0)
  have p1 := pop_pos (xor_ne (a := a / 2 ^ 10 % 2 ^ 10) (b := b / 2 ^ 10 % 2 ^ 10) h1)
  have p2 := pop_pos (xor_ne (a := a / 2 ^ 10 / 2 ^ 10) (b := b / 2 ^ 10 / 2 ^ 10) (by rw [Nat.div_div_eq_div_mul, Nat.div_div_eq_div_mul]; exact h2))
  omega
theorem chunk_same {a b : Int} (ha : 0 ≤ a ∧ a ≤ 1073741823) (hb : 0 ≤ b ∧ b ≤ 1073741823) (h : bitDist a b ≤ 2) : ∃ k : Nat, k < 3 ∧ chunkV a k = chunkV b k := by
  obtain ⟨m, rfl⟩ := Int.eq_ofNat_of_zero_le ha.1
  obtain ⟨n, rfl⟩ := Int.eq_ofNat_of_zero_le hb.1
  have hd : bitDist (m : Int) (n : Int) = (pop (m ^^^ n) : Int) := by
    unfold bitDist
    rw [if_pos (by rw [Bool.and_eq_true]; exact ⟨inR_iff.2 ha, inR_iff.2 hb⟩)]
    simp
  rw [hd] at h
  have c0 := fun q : Int => chunkV_yes (b := q) (k := ((0 : Nat) : Int))
  have c1 := fun q : Int => chunkV_yes (b := q) (k := ((1 : Nat) : Int))
  have c2 := fun q : Int => chunkV_yes (b := q) (k := ((2 : Nat) : Int))
  by_cases h0 : m % 1024 = n % 1024
  · refine ⟨0, by omega, ?_⟩
    rw [(c0 m ha.1 ha.2 (by omega) (by omega)).out, (c0 n hb.1 hb.2 (by omega) (by omega)).out]
    simp; omega
  by_cases h1 : m / 1024 % 1024 = n / 1024 % 1024
  · refine ⟨1, by omega, ?_⟩
    rw [(c1 m ha.1 ha.2 (by omega) (by omega)).out, (c1 n hb.1 hb.2 (by omega) (by omega)).out]
    simp; omega
  by_cases h2 : m / 1048576 = n / 1048576
  · refine ⟨2, by omega, ?_⟩
    rw [(c2 m ha.1 ha.2 (by omega) (by omega)).out, (c2 n hb.1 hb.2 (by omega) (by omega)).out]
    have e : (1024 : Int) ^ ((2 : Nat) : Int).toNat = 1048576 := by decide
    rw [e]; omega
  have := pop_chunks h0 h1 h2
  omega
theorem idxs_asc (n : Nat) : AscI (idxs n) := by
  unfold AscI idxs
  rw [List.pairwise_map]
  exact List.pairwise_lt_range.imp fun h => by omega
/-- the law of the index: at a radius of two or less the search over the candidates finds what the search over all finds -/
theorem near_cand {x : PIdx} {bits radius : Int} (hx : isIdx x = true) (hb : inR bits 0 1073741823 = true) (hr : radius ≤ 2) : searchIx x bits radius = searchPl x.places bits radius := by
  obtain ⟨hp, he⟩ := isIdx_pl hx
  unfold searchIx searchPl nearOf
  rw [candV_yes hx hb, hp, hb]
  simp only [Bool.and_self, if_true]
  congr 1
  refine eq_of_ascI ((candL_asc List.Pairwise.nil).filter _) ((idxs_asc _).filter _) fun i => ?_
  simp only [List.mem_filter, decide_eq_true_eq]
  refine ⟨fun ⟨h1, h2⟩ => ⟨?_, h2⟩, fun ⟨h1, h2⟩ => ⟨?_, h2⟩⟩
  · rcases candL_mem.1 h1 with h3 | ⟨e, h3, _, rfl⟩
    · simp at h3
    · rw [he] at h3
      obtain ⟨k, j, p, _, hj, rfl⟩ := ents_mem.1 h3
      exact List.mem_map.2 ⟨j, List.mem_range.2 (List.getElem?_eq_some_iff.1 hj).1, rfl⟩
  · obtain ⟨j, hj, rfl⟩ := List.mem_map.1 h1
    have hj2 := List.mem_range.1 hj
    have hpj : x.places[j]? = some (x.places[j]'hj2) := List.getElem?_eq_getElem hj2
    generalize x.places[j]'hj2 = p at hpj
    rw [distAt_at hpj] at h2
    have hv : 0 ≤ p.bits ∧ p.bits ≤ 1073741823 := by
      have h3 := hp
      unfold isPL at h3
      simp only [Bool.and_eq_true] at h3
      have h4 := plL_vld h3.2 p (List.mem_of_getElem? hpj)
      unfold vldPlace at h4
      simp only [Bool.and_eq_true] at h4
      first | exact inR_iff.1 h4.2 | exact inR_iff.1 h4.2.1 | exact inR_iff.1 h4.2.2
    obtain ⟨k, hk, hc⟩ := chunk_same hv (inR_iff.1 hb) (by omega)
    refine candL_mem.2 (.inr ⟨⟨(k : Nat), chunkV p.bits (k : Nat), (j : Nat)⟩, ?_, hc, rfl⟩)
    rw [he]
    exact ents_mem.2 ⟨k, j, p, hk, hpj, rfl⟩
theorem all_len {l : List Place} {bits : Int} (hp : isPL l = true) (hb : inR bits 0 1073741823 = true) : (searchPl l bits 30).length = l.length := by
  unfold searchPl nearOf
  rw [hp, hb]
  simp only [Bool.and_self, if_true]
  rw [srt_len, List.filter_eq_self.2, idxs_len]
  intro i hi
  have := dist_range hp hb (okIdx_idxs l.length) i hi
  simpa using this.2
theorem isIdx_build {l : List Place} (h : isPL l = true) : isIdx (buildIdx l).1 = true := by
  have h2 : ∀ m : List PlaceEntry, sameE m m = true := by
    intro m
    induction m with
    | nil => rfl
    | cons f m ih => rw [sameE, ih]; simp [PlaceEntry.same]
  rw [buildIdx_yes h]
  unfold isIdx
  simp only [buildIdx_yes h, h2, Bool.and_self]
end Go.Proofs.Ytbfajhfmfdiacaa
