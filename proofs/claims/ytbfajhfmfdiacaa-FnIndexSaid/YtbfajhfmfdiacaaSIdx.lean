/- SearchIndex: what the two of each answer. -/
import Derived.Test.YtbfajhfmfdiacaaCandF
import Derived.Deep.RegionHeld3
namespace Go.Proofs.Ytbfajhfmfdiacaa
open Go.RowKit
set_option linter.unusedVariables false
set_option linter.unusedSimpArgs false
set_option maxHeartbeats 1600000
set_option maxRecDepth 100000
theorem sameE_eq : ∀ {l m : List PlaceEntry}, sameE l m = true → l = m
  | [], [], _ => rfl
  | [], _ :: _, h => by simp [sameE] at h
  | _ :: _, [], h => by simp [sameE] at h
  | f :: l, g :: m, h => by
    rw [sameE, Bool.and_eq_true] at h
    obtain ⟨f1, f2, f3⟩ := f
    obtain ⟨g1, g2, g3⟩ := g
    have h1 := h.1
    simp only [PlaceEntry.same, Bool.and_eq_true, beq_iff_eq] at h1
    obtain ⟨rfl, rfl, rfl⟩ := h1
    rw [sameE_eq h.2]
theorem ascI_len : ∀ {l : List Int} {a b : Int}, AscI l → (∀ x ∈ l, a ≤ x ∧ x < b) → l.length ≤ (b - a).toNat
  | [], _, _, _, _ => Nat.zero_le _
  | x :: l, a, b, h, hb => by
    obtain ⟨h1, h2⟩ := List.pairwise_cons.1 h
    have h3 := hb x (by simp)
    have := ascI_len (a := x + 1) (b := b) h2 (fun y hy => by have := h1 y hy; have := hb y (by simp [hy]); omega)
    simp only [List.length_cons]; omega
theorem isIdx_pl {x : PIdx} (h : isIdx x = true) : isPL x.places = true ∧ x.entries = ents x.places 3 := by
  unfold isIdx at h
  cases hp : isPL x.places
  · rw [buildIdx_no hp] at h; simp at h
  · rw [buildIdx_yes hp] at h
    exact ⟨rfl, sameE_eq (by simpa using h)⟩
theorem cand_ok {x : PIdx} {bits : Int} {n : Nat} (hl : Hid (x.places.length = n)) : okIdx n (candV x bits) ∧ (candV x bits).length ≤ 19 ∧ ∀ i ∈ candV x bits, 0 ≤ distAt x.places bits i ∧ distAt x.places bits i ≤ 30 := by
  by_cases h : isIdx x = true ∧ inR bits 0 1073741823 = true
  · obtain ⟨h1, h2⟩ := h
    obtain ⟨hp, he⟩ := isIdx_pl h1
    have hln := hl.out
    have h16 := isPL_len hp
    rw [candV_yes h1 h2]
    have hix : okIdx x.places.length (candL bits x.entries []) := fun i hi => by
      rcases candL_mem.1 hi with h3 | ⟨e, h3, _, rfl⟩
      · simp at h3
      · rw [he] at h3
        obtain ⟨k, j, p, _, hj, rfl⟩ := ents_mem.1 h3
        exact ⟨j, rfl, (List.getElem?_eq_some_iff.1 hj).1⟩
    refine ⟨by rw [← hln]; exact hix, ?_, dist_range hp h2 hix⟩
    have := ascI_len (a := 0) (b := x.places.length) (candL_asc (bits := bits) (es := x.entries) List.Pairwise.nil) (fun i hi => by obtain ⟨k, rfl, hk⟩ := hix i hi; omega)
    omega
  · have : candV x bits = [] := by
      unfold candV
      rw [if_neg]
      simpa using h
    rw [this]
    exact ⟨fun i hi => by simp at hi, by simp, fun i hi => by simp at hi⟩
def searchIx (x : PIdx) (bits radius : Int) : List Int := nearOf x.places bits radius (candV x bits)
theorem fewI_six {x : PIdx} (bits radius : Int) : fewI (searchIx x bits radius) := by
  have h1 := nearOf_len x.places bits radius (candV x bits)
  have h2 := (cand_ok (x := x) (bits := bits) (n := x.places.length) rfl).2.1
  unfold fewI searchIx; omega
theorem impl_SearchIndex_k (v : XV) (x : PIdx) (bits radius : Int) (w : World) (hm : bulkX x ≤ 1048576) (hok : okX x) (hr : OwX w v x) (hwf : (Lit.int .i64 bits).wf = true) (hwf2 : (Lit.int .i64 radius).wf = true) :
    Calls Try.prog 15 #[vPIdx v, .int .i64 bits, .int .i64 radius] w fun e w' => ∃ v' : Sv, e = .returned (.slice v'.A v'.n v'.c) ∧ OwI w' v' (searchIx x bits radius) ∧ Fresh w.heap.size w' (fpI v') ∧ Below w.heap.size w w' := by
  have hl : Hid (x.places.length = v.p.n) := hr.p.rd.len
  have hn : v.p.n ≤ 1048576 := by have h1 := hl.out; unfold bulkX bulkP at hm; omega
  obtain ⟨hix, h19, hd⟩ := cand_ok (bits := bits) hl
  have HIX := Lib.hid hix
  have H19 := Lib.hid h19
  have HD := Lib.hid hd
  have hrP : Hid (RowP w v.p.A v.p.n x.places) := hr.p.rd
  clear hix h19 hd
  go_enter Try.func15, Try.ntmps15
  go_wp2_with fail
  refine region_at fun R hR => ?_
  have hwb : Below w.heap.size w R := by rw [hR.out]; exact bAlloc (Below.refl _ _) _
  have c0 : R.cell? ⟨w.heap.size, 0, none⟩ = some (.slice v.p.A v.p.n v.p.c) := by rw [hR.out]; simp
  have c1 : R.cell? ⟨w.heap.size, 1, none⟩ = some (.slice v.e.A v.e.n v.e.c) := by rw [hR.out]; simp
  have hzr : w.heap.size < R.heap.size := by rw [hR.out]; simp
  clear hR
  go_region_held3 (fun w' => w'.cell? ⟨w.heap.size, 0, none⟩ = some (.slice v.p.A v.p.n v.p.c) ∧ w'.cell? ⟨w.heap.size, 1, none⟩ = some (.slice v.e.A v.e.n v.e.c)) (first | go_keep | ((repeat' apply And.intro) <;> (first | exact bCell hb8 (bCell hb7 (by assumption)) | exact bCell hb7 (by assumption) | exact bCell hb8 (by assumption)))) ((first | (go_at_call 39; refine (impl_CandidatesOf_k v x bits _ hm hok (hr.below (bDrew hwb)) hwf).mono ?_; rintro e w7 ⟨v7, rfl, ho7, hf7, hb7⟩) | (go_at_call 38; refine (nearPlaces_c v.p v7 x.places (candV x bits) bits radius _ hn (Row.below hrP.out (bTrans (bDrew hwb) hb7)) (Own.row ho7) HIX.out (by have h1 := (Own.row ho7).len.out; have h2 := H19.out; omega)).mono ?_; rintro e w8 ⟨v8, rfl, ho8, hf8, hb8⟩)))
  go_wp2_with fail
  go_ret
  exact ⟨v8, rfl, ho8, hf8.rebase (by have h1 := (bTrans (bDrew hwb) hb7).size; omega), bTrans (bTrans (bDrew hwb) hb7) hb8⟩
end Go.Proofs.Ytbfajhfmfdiacaa
