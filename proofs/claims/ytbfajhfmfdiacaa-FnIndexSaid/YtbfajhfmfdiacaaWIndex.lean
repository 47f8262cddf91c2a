/- The walk of the law on the index. -/
import Derived.Test.YtbfajhfmfdiacaaDraw2
import Derived.Test.YtbfajhfmfdiacaaIndexP
import Derived.Test.YtbfajhfmfdiacaaIndexA
import Derived.Test.YtbfajhfmfdiacaaNear2
import Derived.Test.YtbfajhfmfdiacaaBuildK
import Derived.Test.YtbfajhfmfdiacaaIsIdx
namespace Go.Proofs.Ytbfajhfmfdiacaa
open Go.RowKit
set_option linter.unusedVariables false
set_option linter.unusedSimpArgs false
set_option maxHeartbeats 1600000
set_option maxRecDepth 100000
theorem wf_small {n : Int} (h0 : -9223372036854775808 ≤ n) (h1 : n ≤ 9223372036854775807) : (Lit.int .i64 n).wf = true := by
  simp [Lit.wf, IntKind.min, IntKind.max, IntKind.signed, IntKind.bits]
  omega
theorem pnm_size {k : Nat} (h : k < 10) : (pnm k).size = 2 := by rw [pnm_eq h]; rfl
theorem PDraw.name {l : List Place} (h : PDraw l) {p : Place} (hp : p ∈ l) : p.name.size = 2 ∧ 0 ≤ p.bits ∧ p.bits ≤ 1073741823 := by
  obtain ⟨k, hk, rfl⟩ := List.mem_iff_getElem.1 hp
  have h1 := h.1
  obtain ⟨h2, h3, h4⟩ := h.2 k l[k] (List.getElem?_eq_getElem hk)
  exact ⟨by rw [h2]; exact pnm_size (by omega), h3, h4⟩
theorem sum_two : ∀ (l : List Place), (∀ p ∈ l, p.name.size = 2) → sumBulk Place.bulk l = 2 * l.length
  | [], _ => rfl
  | p :: l, h => by
    have h1 := h p (by simp)
    have h2 := sum_two l fun q hq => h q (by simp [hq])
    simp only [sumBulk, Place.bulk, List.length_cons] at *
    omega
theorem sum_zero {α : Type} : ∀ (l : List α), sumBulk (fun _ => 0) l = 0
  | [] => rfl
  | x :: l => by simp only [sumBulk]; rw [sum_zero l]
theorem PDraw.bulk {l : List Place} (h : PDraw l) : bulkP l ≤ 15 := by
  have h1 := h.1
  have h2 := sum_two l fun p hp => (h.name hp).1
  unfold bulkP; omega
theorem PDraw.ok {l : List Place} (h : PDraw l) : okP l := fun p hp => by
  obtain ⟨h1, h2, h3⟩ := h.name hp
  exact ⟨by rw [h1]; simp [maxLen], wf_small (by omega) (by omega)⟩
theorem PDraw.bulkX {l : List Place} (h : PDraw l) : bulkX (buildIdx l).1 ≤ 1048576 := by
  have h1 := h.1
  have h2 := h.bulk
  have h3 := ents_len l 3
  rw [buildIdx_yes h.isPL]
  unfold Go.Proofs.Ytbfajhfmfdiacaa.bulkX bulkL
  rw [sum_zero]
  simp only
  omega
theorem PDraw.okX {l : List Place} (h : PDraw l) : okX (buildIdx l).1 := by
  rw [buildIdx_yes h.isPL]
  exact ⟨h.ok, fun _ _ => trivial⟩
theorem bitDist_self {x : Int} (h0 : 0 ≤ x) (h1 : x ≤ 1073741823) : bitDist x x = 0 := by
  rw [(bitDist_yes h0 h1 h0 h1).out, Nat.xor_self]
  have : pop 0 = 0 := by rw [pop]; simp
  rw [this]; rfl
theorem w_FnIndex (W : World) (A : Option Addr) (n c : Nat) (hm : n ≤ maxLen) (hy : Bytes W A n) :
    Calls Try.prog 4 #[.slice A n c] W fun e w' => e = rBool true ∧ Below W.heap.size W w' := by
  by_cases hn : n ≤ 1048576
  rotate_left
  · have hn' : (1048576 : Int) < (n : Int) := by omega
    go_enter Try.func4, Try.ntmps4
    go_wp2
    go_ret
    exact ⟨rfl, Below.refl _ _⟩
  have hn' : decide ((1048576 : Int) < (n : Int)) = false := by simp; omega
  have hy' := Lib.hid hy
  clear hy hm
  go_enter Try.func4, Try.ntmps4
  go_wp2_with fail
  refine Calls.mono (MakePlaces_c (W := W) (c := c) (Below.refl _ _) hy'.out hn) ?_
  rintro e w1 ⟨v, l, x, rfl, hp, hx0, hx1, ho, hf, hb1⟩
  have hs1 := hb1.size
  have HP := Lib.hid hp
  have HB := Lib.hid (buildIdx_yes hp.isPL)
  have HL : Hid (l.length = v.n) := ho.rd.len
  have hlen : v.n ≤ 5 := by have := hp.1; have := HL.out; omega
  have hlo : Hid (∀ q ∈ fpP v, W.heap.size ≤ q) := hf.lo
  have hinx : inR x 0 1073741823 = true := inR_iff.2 ⟨hx0, hx1⟩
  have HX := Lib.hid hinx
  have hwx := wf_small (n := x) (by omega) (by omega)
  clear hp hf hinx
  go_wp2_with fail
  refine Calls.mono (MakeNum_c (W := W) (w := w1) (c := c) hb1 hy'.out hn) ?_
  rintro e w2 ⟨m, rfl, hm0, hm1, hb2⟩
  have H2 := bTrans hb1 hb2
  have ho2 := ho.below hb2
  have hs2 := hb2.size
  have hr0 : 0 ≤ m % 3 := by omega
  have hr1 : m % 3 ≤ 2 := by omega
  have hwr := wf_small (n := m % 3) (by omega) (by omega)
  clear ho
  go_wp2_with fail
  refine Calls.mono (impl_BuildIndex_k v l _ (by have := HP.out.bulk; omega) HP.out.ok ?_) ?_
  · exact ho2
  rintro e w3 ⟨vx, rfl, hox, hfx, hb3⟩
  rw [HB.out]
  have H3 := bTrans H2 hb3
  have ho3 := ho2.below hb3
  have hs3 := hb3.size
  have hlox : Hid (∀ q ∈ fpX vx, w2.heap.size ≤ q) := hfx.lo
  have hhix : Hid (∀ q ∈ fpX vx, q < w3.heap.size) := hfx.hi
  clear ho2 hfx
  have hox' : OwX w3 vx ⟨l, ents l 3⟩ := by rw [HB.out] at hox; exact hox
  have hbX := Lib.hid (show bulkX ⟨l, ents l 3⟩ ≤ 1048576 by have := HP.out.bulkX; rw [HB.out] at this; exact this)
  have hoX := Lib.hid (show okX ⟨l, ents l 3⟩ by have := HP.out.okX; rw [HB.out] at this; exact this)
  have hiX := Lib.hid (show isIdx ⟨l, ents l 3⟩ = true by have := isIdx_build HP.out.isPL; rw [HB.out] at this; exact this)
  have hbP := Lib.hid (show bulkP l ≤ 1048576 by have := HP.out.bulk; omega)
  clear hox
  go_wp2_with fail
  refine Calls.mono (impl_SearchIndex_k vx ⟨l, ents l 3⟩ x (m % 3) _ hbX.out hoX.out ?_ hwx hwr) ?_
  · exact hox'.below (bAlloc (Below.refl _ _) _)
  rintro e w4 ⟨va, rfl, hoa, hfa, hb4⟩
  rw [near_cand hiX.out HX.out hr1] at hoa
  have K4 : Below w3.heap.size w3 w4 := bTrans (bAlloc (Below.refl _ _) _) hb4
  have H4 := bTrans H3 K4
  have ho4 := ho3.below K4
  have hox4 := hox'.below K4
  have kb4 := bBox hb4 w3.heap.size (by simp)
  have hz4 : w3.heap.size < w4.heap.size := by have := hb4.size; simp at this; omega
  clear ho3 hox' hb4 hfa
  go_wp2_with fail
  refine Calls.mono (impl_SearchPlaces_k v l x (m % 3) _ hbP.out HP.out.ok ?_ hwx hwr) ?_
  · exact ho4
  rintro e w5 ⟨vb, rfl, hob, hfb, hb5⟩
  have H5 := bTrans H4 hb5
  have ho5 := ho4.below hb5
  have hox5 := hox4.below hb5
  have hoa5 := hoa.below hb5
  have kb5 := bBox hb5 w3.heap.size hz4
  have hz5 : w3.heap.size < w5.heap.size := by have := hb5.size; omega
  clear ho4 hox4 hoa hfb
  go_wp2_with fail
  refine Calls.mono (impl_SearchPlaces_k v l x 30 _ hbP.out HP.out.ok ?_ hwx (wf_small (by omega) (by omega))) ?_
  · exact ho5
  rintro e w6 ⟨vc, rfl, hoc, hfc, hb6⟩
  have H6 := bTrans H5 hb6
  have ho6 := ho5.below hb6
  have hox6 := hox5.below hb6
  have hoa6 := hoa5.below hb6
  have hob6 := hob.below hb6
  have kb6 := bBox hb6 w3.heap.size hz5
  have hz6 : w3.heap.size < w6.heap.size := by have := hb6.size; omega
  have hcl : Hid (vc.n = v.n) := by
    have h1 := hoc.rd.len
    have h2 := all_len HP.out.isPL HX.out
    exact (h1.out.symm.trans h2).trans HL.out
  clear ho5 hox5 hoa5 hob hfc
  generalize hN : nearestPl l x = N
  have HN := Lib.hid hN
  go_wp2_with fail
  refine Calls.mono (impl_NearestPlace_k v l x _ hbP.out HP.out.ok ?_ hwx) ?_
  · exact ho6
  rw [HN.out]
  rintro e w7 ⟨rfl, hb7⟩
  have H7 := bTrans H6 hb7
  have hox7 := hox6.below hb7
  have hoa7 := hoa6.below hb7
  have hob7 := hob6.below hb7
  have hoc7 := hoc.below hb7
  have kb7 := bBox hb7 w3.heap.size hz6
  have hz7 : w3.heap.size < w7.heap.size := by have := hb7.size; omega
  clear ho6 hox6 hoa6 hob6 hoc
  by_cases h0 : v.n = 0
  · have hnil : searchPl l x 30 = [] := by
      have h2 := all_len HP.out.isPL HX.out
      have h3 := HL.out
      exact List.eq_nil_of_length_eq_zero (by omega)
    have hN1 : N = -1 := by rw [← hN]; unfold nearestPl; rw [hnil]
    have h0' : (v.n : Int) = 0 := by omega
    clear hN HN
    subst hN1
    go_wp2
    go_ret
    exact ⟨rfl, H7⟩
  · obtain ⟨hd, tl, hcons⟩ : ∃ hd tl, searchPl l x 30 = hd :: tl := by
      have h2 := all_len HP.out.isPL HX.out
      have h3 := HL.out
      cases hs : searchPl l x 30 with
      | nil => rw [hs] at h2; simp at h2; omega
      | cons a b => exact ⟨a, b, rfl⟩
    have hN1 : N = hd := by rw [← hN]; unfold nearestPl; rw [hcons]
    clear hN HN
    subst hN1
    have hrc : RowI w7 vc.A vc.n (N :: tl) := by have := hoc7.rd; rw [hcons] at this; exact this
    obtain ⟨q, g, off, hq, hA, hcell⟩ := RowI.at_ hrc (show 0 < vc.n by have := hcl.out; omega)
    have hqN : N = q := by have := hq.out; simpa using this
    subst hqN
    obtain ⟨Aa, na, ca⟩ := va
    obtain ⟨Ab, nb, cb⟩ := vb
    obtain ⟨Ac, nc, cc⟩ := vc
    have hra : RowI w7 Aa na (searchPl l x (m % 3)) := hoa7.rd
    have hrb : RowI w7 Ab nb (searchPl l x (m % 3)) := hob7.rd
    have hab : na = nb := (hra.len.out).symm.trans hrb.len.out
    subst hab
    have hna : na ≤ 1048576 := by
      have h1 := nearOf_len l x (m % 3) (idxs l.length)
      have h2 := hra.len.out
      have h3 := idxs_len l.length
      have h4 := HP.out.1
      have h5 : (searchPl l x (m % 3)).length ≤ l.length := by
        unfold searchPl
        split
        · omega
        · simp
      omega
    dsimp only at hA hcell hcl
    have hcl1 : nc = v.n := hcl
    subst hcl1
    subst hA
    have hc0 : w7.cell? ⟨g, off, none⟩ = some (.int .i64 N) := by simpa using hcell
    have hnz : ¬ (v.n : Int) = 0 := by omega
    have hpos : (0 : Int) < (v.n : Int) := by omega
    have HRA := Lib.hid hra
    have HRB := Lib.hid hrb
    have HBD := Lib.hid (bitDist_self hx0 hx1)
    clear hra hrb hcell hoa7 hob7 hoc7 hrc hcons hq
    go_wp2_with fail
    refine Calls.mono (impl_IsIndex_k vx ⟨l, ents l 3⟩ _ hbX.out hoX.out ?_) ?_
    · exact hox7
    rw [hiX.out]
    rintro e w8 ⟨rfl, hb8⟩
    have H8 := bTrans H7 hb8
    have hc8 := bCell hb8 hc0
    have RA := Lib.hid (Row.below HRA.out hb8)
    have RB := Lib.hid (Row.below HRB.out hb8)
    clear HRA HRB hc0 hox7
    go_wp2_with fail
    refine Calls.mono (sameInts_c Aa Ab na ca cb (searchPl l x (m % 3)) _ hna ?_ ?_) ?_
    · exact RA.out
    · exact RB.out
    rintro e w9 ⟨rfl, rfl⟩
    go_wp2_with fail
    refine Calls.mono (impl_BitDistance_c x x _) ?_
    rw [HBD.out]
    rintro e w10 ⟨rfl, rfl⟩
    go_wp2_with fail
    go_ret
    exact ⟨rfl, H8⟩
end Go.Proofs.Ytbfajhfmfdiacaa
