/- Places near a description: the plain law; nearPlaces, l26Sort, SearchPlaces, NearestPlace: what the two of each answer. -/
import Derived.Test.YtbfajhfmfdiacaaSort
import Derived.Test.YtbfajhfmfdiacaaNums
import Derived.Test.YtbfajhfmfdiacaaPlaces
import Derived.Test.YtbfajhfmfdiacaaFlat
import Derived.Test.YtbfajhfmfdiacaaTake
namespace Go.Proofs.Ytbfajhfmfdiacaa
open Go.RowKit
set_option linter.unusedVariables false
set_option linter.unusedSimpArgs false
set_option maxHeartbeats 1600000
set_option maxRecDepth 100000
/-! ### the plain law: a stable sort by a small key is a row of buckets -/
section
variable {α : Type} (key : α → Int)
def bkt (is : List α) (d : Nat) : List α := (List.range d).flatMap fun (e : Nat) => is.filter fun i => decide (key i = (e : Int))
theorem bkt_succ (is : List α) (d : Nat) : bkt key is (d + 1) = bkt key is d ++ is.filter fun i => decide (key i = (d : Int)) := by
  simp [bkt, List.range_succ, List.flatMap_append]
theorem filter_insR (x : α) (P : List α) (d : Int) : (insR key x P).filter (fun i => decide (key i = d)) = (P ++ [x]).filter (fun i => decide (key i = d)) := by
  unfold insR
  rw [List.filter_append, List.filter_append, List.filter_cons, List.filter_filter, List.filter_filter]
  have hx1 : [x].filter (fun i => decide (key i = d)) = if key x = d then [x] else [] := by
    by_cases h : key x = d <;> simp [h]
  rw [hx1]
  rcases Int.lt_trichotomy d (key x) with h | h | h
  · have e1 : P.filter (fun a => decide (key a = d) && decide (key a ≤ key x)) = P.filter (fun a => decide (key a = d)) := List.filter_congr fun a _ => by
      by_cases h2 : key a = d <;> simp [h2]; omega
    have e2 : P.filter (fun a => decide (key a = d) && decide (key x < key a)) = [] := List.filter_eq_nil_iff.2 fun a _ => by simp; omega
    have h3 : ¬ key x = d := by omega
    rw [e1, e2]; simp [h3]
  · have e1 : P.filter (fun a => decide (key a = d) && decide (key a ≤ key x)) = P.filter (fun a => decide (key a = d)) := List.filter_congr fun a _ => by
      by_cases h2 : key a = d <;> simp [h2]; omega
    have e2 : P.filter (fun a => decide (key a = d) && decide (key x < key a)) = [] := List.filter_eq_nil_iff.2 fun a _ => by simp; omega
    rw [e1, e2]; simp [h]
  · have e1 : P.filter (fun a => decide (key a = d) && decide (key a ≤ key x)) = [] := List.filter_eq_nil_iff.2 fun a _ => by simp; omega
    have e2 : P.filter (fun a => decide (key a = d) && decide (key x < key a)) = P.filter (fun a => decide (key a = d)) := List.filter_congr fun a _ => by
      by_cases h2 : key a = d <;> simp [h2]; omega
    have h3 : ¬ key x = d := by omega
    rw [e1, e2]; simp [h3]
theorem filter_srt (d : Int) (l : List α) : (srt key l).filter (fun i => decide (key i = d)) = l.filter (fun i => decide (key i = d)) := by
  have : ∀ (l P : List α), (l.foldl (fun P x => insR key x P) P).filter (fun i => decide (key i = d)) = (P ++ l).filter (fun i => decide (key i = d)) := by
    intro l
    induction l with
    | nil => intro P; simp
    | cons x l ih => intro P; rw [List.foldl_cons, ih, List.filter_append, filter_insR, ← List.filter_append]; simp
  have h := this l []
  simpa [srt] using h
theorem sorted_cut (d : Int) : ∀ (P : List α), Srt key P → P = P.filter (fun i => decide (key i < d)) ++ P.filter (fun i => decide (¬ key i < d))
  | [], _ => rfl
  | a :: P, h => by
    have h1 := List.pairwise_cons.1 h
    by_cases ha : key a < d
    · have ih := sorted_cut d P h1.2
      simp only [List.filter_cons, ha, not_true, decide_true, decide_false, if_true, List.cons_append]
      simp only [Bool.false_eq_true, if_false]
      rw [← ih]
    · have e1 : (a :: P).filter (fun i => decide (key i < d)) = [] := List.filter_eq_nil_iff.2 fun y hy => by
        rcases List.mem_cons.1 hy with rfl | hy
        · simpa using ha
        · have := h1.1 y hy; simp; omega
      have e2 : (a :: P).filter (fun i => decide (¬ key i < d)) = a :: P := List.filter_eq_self.2 fun y hy => by
        rcases List.mem_cons.1 hy with rfl | hy
        · simpa using ha
        · have := h1.1 y hy; simp; omega
      rw [e1, e2]; rfl
theorem sorted_bkt : ∀ (d : Nat) (P : List α), Srt key P → (∀ x ∈ P, 0 ≤ key x ∧ key x < (d : Int)) → P = bkt key P d
  | 0, P, _, h => by
    cases P with
    | nil => rfl
    | cons a P => have := h a (by simp); omega
  | d + 1, P, hs, h => by
    rw [bkt_succ]
    have hc := sorted_cut key (d : Int) P hs
    have ih := sorted_bkt d (P.filter fun i => decide (key i < (d : Int))) (hs.filter _) (fun x hx => by
      simp only [List.mem_filter, decide_eq_true_eq] at hx
      exact ⟨(h x hx.1).1, hx.2⟩)
    have e1 : P.filter (fun i => decide (¬ key i < (d : Int))) = P.filter (fun i => decide (key i = (d : Int))) := List.filter_congr fun x hx => by
      have := (h x hx).2
      by_cases h2 : key x = d <;> simp [h2]; omega
    have e2 : bkt key (P.filter fun i => decide (key i < (d : Int))) d = bkt key P d := by
      unfold bkt
      rw [List.flatMap_def, List.flatMap_def]
      congr 1
      apply List.map_congr_left
      intro e he
      have he' := List.mem_range.1 he
      rw [List.filter_filter]
      exact List.filter_congr fun x _ => by by_cases h2 : key x = e <;> simp [h2]; omega
    rw [e2] at ih
    rw [e1, ih] at hc
    exact hc
theorem near_bkt {is : List α} {r : Int} {d : Nat} (hk : ∀ x ∈ is, 0 ≤ key x ∧ key x ≤ 30) (h1 : d = 31 ∨ r < (d : Int)) (h2 : ∀ e : Nat, e < d → (e : Int) ≤ r) : srt key (is.filter fun i => decide (key i ≤ r)) = bkt key is d := by
  have e1 := sorted_bkt key d (srt key (is.filter fun i => decide (key i ≤ r))) (srt_Srt key _) (fun x hx => by
    rw [srt_mem] at hx
    simp only [List.mem_filter, decide_eq_true_eq] at hx
    have := hk x hx.1
    rcases h1 with rfl | h1
    · refine ⟨this.1, ?_⟩; push_cast; omega
    · omega)
  rw [e1]
  unfold bkt
  rw [List.flatMap_def, List.flatMap_def]
  congr 1
  apply List.map_congr_left
  intro e he
  have he' := h2 e (List.mem_range.1 he)
  rw [filter_srt, List.filter_filter]
  exact List.filter_congr fun x _ => by by_cases h3 : key x = e <;> simp [h3]; omega
end
theorem pop_two : ∀ (n x : Nat), x < 2 ^ n → pop x ≤ n
  | 0, x, h => by
    have : x = 0 := by simpa using h
    subst this; rw [pop]; simp
  | n + 1, x, h => by
    rw [pop]
    split
    · omega
    · have := pop_two n (x / 2) (by rw [Nat.pow_succ] at h; omega)
      omega
theorem bitDist_range {a b : Int} (h0 : 0 ≤ a) (h1 : a ≤ 1073741823) (h2 : 0 ≤ b) (h3 : b ≤ 1073741823) : 0 ≤ bitDist a b ∧ bitDist a b ≤ 30 := by
  rw [(bitDist_yes h0 h1 h2 h3).out]
  have := pop_two 30 (a.toNat ^^^ b.toNat) (Nat.xor_lt_two_pow (by omega) (by omega))
  omega
def distAt (l : List Place) (bits : Int) (i : Int) : Int := match l[i.toNat]? with
  | some p => bitDist p.bits bits
  | none => 0
theorem distAt_at {l : List Place} {bits : Int} {i : Nat} {p : Place} (h : Hid (l[i]? = some p)) : distAt l bits (i : Int) = bitDist p.bits bits := by
  have : l[i]? = some p := h
  unfold distAt; simp [this]
def nearOf (l : List Place) (bits radius : Int) (is : List Int) : List Int := srt (distAt l bits) (is.filter fun i => decide (distAt l bits i ≤ radius))
/-- the indices of n places -/
def idxs (n : Nat) : List Int := (List.range n).map fun (i : Nat) => (i : Int)
def okIdx (n : Nat) (is : List Int) : Prop := ∀ x ∈ is, ∃ k : Nat, x = (k : Int) ∧ k < n
theorem okIdx_idxs (n : Nat) : okIdx n (idxs n) := fun x hx => by
  obtain ⟨k, hk, rfl⟩ := List.mem_map.1 hx
  exact ⟨k, rfl, List.mem_range.1 hk⟩
theorem idxs_succ (n : Nat) : idxs (n + 1) = idxs n ++ [(n : Int)] := by simp [idxs, List.range_succ]
theorem idxs_len (n : Nat) : (idxs n).length = n := by simp [idxs]
def searchPl (l : List Place) (bits radius : Int) : List Int := if isPL l && inR bits 0 1073741823 then nearOf l bits radius (idxs l.length) else []
theorem plL_vld : ∀ {l : List Place} {s : List ByteArray}, plL l s = true → ∀ p ∈ l, vldPlace p = true
  | q :: l, s, h, p, hp => by
    simp only [plL, Bool.and_eq_true] at h
    rcases List.mem_cons.1 hp with rfl | hp
    · exact h.1
    · exact plL_vld h.2.2 p hp
theorem isPL_len {l : List Place} (h : isPL l = true) : l.length ≤ 16 := by
  simp only [isPL, Bool.and_eq_true, decide_eq_true_eq] at h; exact h.1
theorem dist_range {l : List Place} {bits : Int} (h : isPL l = true) (hb : inR bits 0 1073741823 = true) {is : List Int} (hi : okIdx l.length is) : ∀ x ∈ is, 0 ≤ distAt l bits x ∧ distAt l bits x ≤ 30 := by
  intro x hx
  obtain ⟨k, rfl, hk⟩ := hi x hx
  have hp : l[k]? = some (l[k]'hk) := List.getElem?_eq_getElem hk
  rw [distAt_at hp]
  simp only [isPL, Bool.and_eq_true] at h
  have hv := plL_vld h.2 (l[k]'hk) (List.getElem_mem hk)
  simp only [vldPlace, Bool.and_eq_true] at hv
  have h1 := inR_iff.1 hv.2
  have h2 := inR_iff.1 hb
  exact bitDist_range h1.1 h1.2 h2.1 h2.2
theorem nearOf_len (l : List Place) (bits radius : Int) (is : List Int) : (nearOf l bits radius is).length ≤ is.length := by
  unfold nearOf; rw [srt_len]; exact List.length_filter_le _ _
theorem searchPl_len (l : List Place) (bits radius : Int) : (searchPl l bits radius).length ≤ l.length := by
  unfold searchPl
  split
  · exact Nat.le_trans (nearOf_len _ _ _ _) (by rw [idxs_len]; exact Nat.le_refl _)
  · simp
theorem searchPl_no1 {l : List Place} {bits radius : Int} (h : isPL l = false) : searchPl l bits radius = [] := by simp [searchPl, h]
theorem searchPl_no2 {l : List Place} {bits radius : Int} (h : inR bits 0 1073741823 = false) : searchPl l bits radius = [] := by simp [searchPl, h]
theorem searchPl_yes {l : List Place} {bits radius : Int} (h : isPL l = true) (h2 : inR bits 0 1073741823 = true) : searchPl l bits radius = nearOf l bits radius (idxs l.length) := by simp [searchPl, h, h2]
theorem own_some {w : World} {B e sz n c g : Nat} {A : Option Addr} {css : List (List Value)} (h : Own w B e sz A n c css) (hg : ob A = some g) : A = some ⟨g, 0, none⟩ := by
  rcases h.cases with ⟨rfl, _⟩ | ⟨g2, rfl, _⟩
  · simp [ob] at hg
  · simp [ob] at hg; subst hg; rfl
theorem info_Int_ : (Try.prog.info? 3).map (fun i => (i.zero, i.size, i.bytes)) = some (some (.int .i64 0), 1, 8) := by kernel_rfl
/-! ### the program's comparison -/
theorem near_cmp (i j pl pb : Nat) (A : Option Addr) (n c : Nat) (l : List Place) (bits : Int) (w : World) (hn : n ≤ 1048576) (hr : RowP w A n l) (hi : i < n) (hj : j < n) (h0 : w.cell? ⟨pl, 0, none⟩ = some (.slice A n c)) (h1 : w.cell? ⟨pb, 0, none⟩ = some (.int .i64 bits)) :
    Calls Try.prog 58 #[.int .i64 i, .int .i64 j, .pointer (some ⟨pl, 0, none⟩), .pointer (some ⟨pb, 0, none⟩)] w fun e w' => e = rInt (cmpI (distAt l bits i) (distAt l bits j)) ∧ ∃ m, w' = w.drewN m := by
  obtain ⟨f, g, off, hf, rfl, g0, g1⟩ := RowP.at_ hr hi
  obtain ⟨f2, g', off', hf2, hA, k0, k1⟩ := RowP.at_ hr hj
  obtain ⟨rfl, rfl⟩ : g = g' ∧ off = off' := by simpa using hA
  rw [distAt_at hf, distAt_at hf2]
  have i0 : (0 : Int) ≤ (i : Int) := by omega
  have i1 : (i : Int) < (n : Int) := by omega
  have j0 : (0 : Int) ≤ (j : Int) := by omega
  have j1 : (j : Int) < (n : Int) := by omega
  clear hA hf hf2 hr hi hj
  go_enter Try.func58, Try.ntmps58
  go_wp2_with fail
  go_quiet (first
    | (go_at_call 20; refine Calls.quiet_of_same ((impl_BitDistance_c _ _ _).mono fun _ _ h => ⟨h.1, h.2.symm⟩))
    | (go_at_call 37; refine Calls.quiet_of_same (cmp_Compare_c _ _ _)))
  go_wp2_with fail
  go_ret
  exact ⟨rfl, _, rfl⟩
end Go.Proofs.Ytbfajhfmfdiacaa
