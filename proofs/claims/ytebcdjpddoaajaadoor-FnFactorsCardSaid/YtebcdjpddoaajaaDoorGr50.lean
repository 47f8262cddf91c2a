/- Texts of this proof, one behind the other: Draw2, Draw3, Draw4. -/
import Derived.Test.YtebcdjpddoaajaaDoorGr2
import Derived.Test.YtebcdjpddoaajaaDoorGr8
import Derived.Test.YtebcdjpddoaajaaDoorGr17
import Derived.Test.YtebcdjpddoaajaaDoorGr19
import Derived.Test.YtebcdjpddoaajaaDoorGr47
import Derived.Test.YtebcdjpddoaajaaDoorGr48
import Derived.Test.YtebcdjpddoaajaaDoorGr49
/- The draws of places: l01Pick, l26Bits, l26Draw, MakePlaces: valid places, few of them. -/
namespace Go.Proofs.YtebcdjpddoaajaaDoor
open Go.RowKit
set_option linter.unusedVariables false
set_option linter.unusedSimpArgs false
set_option maxHeartbeats 1000000
set_option maxRecDepth 100000
theorem pick_row (w : World) (a0 a1 a2 a3 a4 : Int) : RowI (w.alloc (.cells #[.int .i64 a0, .int .i64 a1, .int .i64 a2, .int .i64 a3, .int .i64 a4] 3)) (some ⟨w.heap.size, 0, none⟩) 5 [a0, a1, a2, a3, a4] := by
  have e : (w.alloc (.cells #[.int .i64 a0, .int .i64 a1, .int .i64 a2, .int .i64 a3, .int .i64 a4] 3)).heap[w.heap.size]? = some (.cells #[.int .i64 a0, .int .i64 a1, .int .i64 a2, .int .i64 a3, .int .i64 a4] 3) := heap_alloc_new w _
  refine ⟨rfl, fun i cs hi => ⟨w.heap.size, 0, rfl, fun j v hv => ?_⟩⟩
  unfold World.cell?
  rw [e]
  match i with
  | 0 | 1 | 2 | 3 | 4 =>
    simp [intCells] at hi
    subst hi
    match j with
    | 0 => simp at hv; subst hv; rfl
    | j + 1 => simp at hv
  | i + 5 => simp at hi
theorem flip_range {z q : Int} (h0 : 0 ≤ z) (h1 : z ≤ 1073741823) (h2 : 0 ≤ q) (h3 : q < 30) : 0 ≤ bits .xor .i64 z (wrap64 (2 ^ q.toNat)) ∧ bits .xor .i64 z (wrap64 (2 ^ q.toNat)) ≤ 1073741823 := by
  obtain ⟨m, rfl⟩ := Int.eq_ofNat_of_zero_le h2
  have hm : m ≤ 29 := by omega
  have hp : 2 ^ m ≤ 2 ^ 29 := Nat.pow_le_pow_right (by decide) hm
  have e : ((2 : Int) ^ m) = ((2 ^ m : Nat) : Int) := (Int.natCast_pow 2 m).symm
  have hp' : (2 : Nat) ^ m ≤ 536870912 := hp
  have hq : (2 : Int) ^ m ≤ 536870912 := by rw [e]; exact Int.ofNat_le.2 hp'
  have hq' : (0 : Int) ≤ (2 : Int) ^ m := by rw [e]; exact Int.natCast_nonneg _
  have hw : wrap64 ((2 : Int) ^ ((m : Int)).toNat) = ((2 ^ m : Nat) : Int) := by
    rw [Int.toNat_natCast, e]
    rw [← e]
    exact IntWalk.wrap64_in _ ⟨by omega, by omega⟩
  rw [e] at hq hq'
  rw [hw]
  obtain ⟨X, hX, hle, _⟩ := xor_bits (a := z) (b := ((2 ^ m : Nat) : Int)) h0 h1 (by omega) (by omega)
  rw [hX]
  omega
/-- the name of place k -/
def pnm (k : Nat) : ByteArray := ⟨#[112]⟩ ++ itoaB (k : Int)
theorem pnm_eq {k : Nat} (h : k < 10) : pnm k = ⟨#[112, UInt8.ofNat (48 + k)]⟩ := by
  apply bext
  unfold pnm itoaB
  rw [Lib.itoa_nonneg, Lib.decDigits_one h, ByteArray.data_append, Array.toList_append]
  rfl
/-- what the draw makes -/
def PDraw (l : List Place) : Prop := l.length ≤ 5 ∧ ∀ (k : Nat) (p : Place), l[k]? = some p → p.name = pnm k ∧ 0 ≤ p.bits ∧ p.bits ≤ 1073741823
theorem nm_ok : ∀ k : Fin 10, isPoseNm ⟨#[112, UInt8.ofNat (48 + k.val)]⟩ = true := by decide +kernel
theorem nm_new : ∀ k : Fin 10, hasStr ((List.range k.val).map fun j => (⟨#[112, UInt8.ofNat (48 + j)]⟩ : ByteArray)) ⟨#[112, UInt8.ofNat (48 + k.val)]⟩ = false := by decide +kernel
theorem plL_draw : ∀ (l : List Place) (s : Nat), (∀ (k : Nat) (p : Place), l[k]? = some p → p.name = pnm (s + k) ∧ 0 ≤ p.bits ∧ p.bits ≤ 1073741823) → s + l.length ≤ 10 → plL l ((List.range s).map fun j => (⟨#[112, UInt8.ofNat (48 + j)]⟩ : ByteArray)) = true
  | [], _, _, _ => rfl
  | p :: l, s, h, hs => by
    simp only [List.length_cons] at hs
    obtain ⟨h1, h2, h3⟩ := h 0 p rfl
    rw [Nat.add_zero, pnm_eq (by omega)] at h1
    have ih := plL_draw l (s + 1) (fun k q hq => by have := h (k + 1) q (by simpa using hq); rwa [show s + (k + 1) = s + 1 + k by omega] at this) (by omega)
    rw [List.range_succ, List.map_append] at ih
    have e1 := nm_ok ⟨s, by omega⟩
    have e2 := nm_new ⟨s, by omega⟩
    simp only at e1 e2
    have e3 : inR p.bits 0 1073741823 = true := inR_iff.2 ⟨h2, h3⟩
    unfold plL vldPlace
    rw [h1, e1, e2, e3]
    simpa using ih
theorem PDraw.isPL {l : List Place} (h : PDraw l) : isPL l = true := by
  have h1 := plL_draw l 0 (fun k p hk => by have := h.2 k p hk; simpa using this) (by have := h.1; omega)
  have h2 := h.1
  unfold Go.Proofs.YtebcdjpddoaajaaDoor.isPL
  simp only [Bool.and_eq_true, decide_eq_true_eq]
  exact ⟨by omega, h1⟩
theorem PDraw.push {l : List Place} {z : Int} (h : PDraw l) (hl : l.length ≤ 4) (h0 : 0 ≤ z) (h1 : z ≤ 1073741823) : PDraw (l ++ [⟨pnm l.length, z⟩]) := by
  refine ⟨by simp; omega, fun k p hk => ?_⟩
  by_cases hlt : k < l.length
  · rw [List.getElem?_append_left hlt] at hk
    exact h.2 k p hk
  · rw [List.getElem?_append_right (by omega)] at hk
    have : k - l.length = 0 := by
      rcases Nat.eq_zero_or_pos (k - l.length) with h9 | h9
      · exact h9
      · rw [List.getElem?_eq_none (by simp; omega)] at hk; cases hk
    rw [this] at hk
    simp only [List.getElem?_cons_zero, Option.some.injEq] at hk
    subst hk
    have e : k = l.length := by omega
    subst e
    exact ⟨rfl, h0, h1⟩
theorem Upd.grown_hi2 {fs : List Nat} {a b c : World} {row : Option Nat} (h : Upd fs a b) (k : b.grownBy c row) (hr : ∀ q, row = some q → a.heap.size ≤ q) : Upd fs a c :=
  ⟨k.os.trans h.os, k.tape.trans h.tape, k.output.trans h.output, Nat.le_trans h.size k.size, fun i hi hn => (k.block i (Nat.lt_of_lt_of_le hi h.size) (fun e => by have := hr i e.symm; omega)).trans (h.block i hi hn)⟩
theorem Cur.keep {W w w' : World} {b : Nat} {A : Option Addr} {n c : Nat} (h : Cur W w b A n c) (hB : Below W.heap.size W w') (hk : w'.heap[b]? = w.heap[b]?) : Cur W w' b A n c := by
  have e1 : ∀ o, w'.cell? ⟨b, o, none⟩ = w.cell? ⟨b, o, none⟩ := fun o => World.cell?_of_block (a := ⟨b, o, none⟩) hk
  have e2 : ∀ o, w'.frozen? ⟨b, o, none⟩ = w.frozen? ⟨b, o, none⟩ := fun o => World.frozen?_of_block (a := ⟨b, o, none⟩) hk
  obtain ⟨i, hi, h1⟩ := h.c1
  obtain ⟨k, h2⟩ := h.c2
  exact ⟨hB, h.hb, (e1 0).trans h.c0, ⟨i, hi, (e1 1).trans h1⟩, ⟨k, (e1 2).trans h2⟩, fun o => (e2 o).trans (h.fz o)⟩
end Go.Proofs.YtebcdjpddoaajaaDoor

/- The draws of single factors: l01Once, l01Str, l05Draw, l16Pose, l16Draw. -/
namespace Go.Proofs.YtebcdjpddoaajaaDoor
open Go.RowKit
set_option linter.unusedVariables false
set_option linter.unusedSimpArgs false
set_option maxHeartbeats 1000000
set_option maxRecDepth 100000
theorem l01Once_c {W w : World} {b : Nat} {A : Option Addr} {n c : Nat} (hy : Bytes W A n) (hn : n ≤ 1048576) (h : Cur W w b A n c) (m : Int) (h0 : 0 < m) (h1 : m ≤ 256) :
    Calls Tryd.prog 88 #[.pointer (some ⟨b, 0, none⟩), .int .i64 m] w fun e w' => ∃ x, e = rBool x ∧ Cur W w' b A n c ∧ Upd [b] w w' := by
  have HC := Lib.hid h
  have hy' := Lib.hid hy
  clear h hy
  go_enter Tryd.func88, Tryd.ntmps88
  go_wp2_with fail
  refine Calls.mono (l01Below_c hy'.out hn HC.out m h0 h1) ?_
  rintro e w1 ⟨x, rfl, hx0, hx1, hc1, hu1⟩
  go_wp2
  go_ret
  exact ⟨_, rfl, hc1, hu1⟩
theorem l01Str_c {W w : World} {b : Nat} {A : Option Addr} {n c : Nat} (hy : Bytes W A n) (hn : n ≤ 1048576) (h : Cur W w b A n c) (g m cp : Nat) (l : List ByteArray) (hr : RowS w (some ⟨g, 0, none⟩) m l) (hg : g ≠ b) (h0 : 0 < m) (h1 : m ≤ 256) :
    Calls Tryd.prog 91 #[.pointer (some ⟨b, 0, none⟩), .slice (some ⟨g, 0, none⟩) m cp] w fun e w' => ∃ x, e = .returned (.string x) ∧ x ∈ l ∧ Cur W w' b A n c ∧ Upd [b] w w' := by
  have HC := Lib.hid h
  have hy' := Lib.hid hy
  have hr' := Lib.hid hr
  clear h hy hr
  have hmi0 : (0 : Int) < (m : Int) := by omega
  have hmi1 : (m : Int) ≤ 256 := by omega
  go_enter Tryd.func91, Tryd.ntmps91
  go_wp2_with fail
  refine Calls.mono (l01Below_c hy'.out hn HC.out (m : Int) (by omega) (by omega)) ?_
  rintro e w1 ⟨x, rfl, hx0, hx1, hc1, hu1⟩
  obtain ⟨k, rfl⟩ := Int.eq_ofNat_of_zero_le hx0
  have hk : k < m := by omega
  obtain ⟨v, g', off', hv, hA, hcell⟩ := RowS.at_ (hr'.out.upd_ hu1 (fun g2 off2 e => by simp only [Option.some.injEq, Addr.mk.injEq] at e; simp; omega)) hk
  simp only [Option.some.injEq, Addr.mk.injEq, and_true] at hA
  obtain ⟨rfl, rfl⟩ := hA
  rw [Nat.zero_add] at hcell
  go_wp2
  go_ret
  exact ⟨v, rfl, List.mem_of_getElem? hv.out, hc1, hu1⟩
/-- a row of strings, just made -/
theorem str_row (w : World) (l : List ByteArray) : RowS (w.alloc (.cells (l.map Value.string).toArray 9)) (some ⟨w.heap.size, 0, none⟩) l.length l := by
  refine ⟨by simp, fun i cs hi => ⟨w.heap.size, 0, rfl, fun j v hv => ?_⟩⟩
  have e : (w.alloc (.cells (l.map Value.string).toArray 9)).heap[w.heap.size]? = some (.cells (l.map Value.string).toArray 9) := heap_alloc_new w _
  unfold World.cell?
  rw [e]
  rw [List.getElem?_map] at hi
  cases hl : l[i]? with
  | none => rw [hl] at hi; cases hi
  | some s =>
    rw [hl] at hi
    simp only [Option.map_some, Option.some.injEq] at hi
    subst hi
    match j with
    | 0 =>
      simp [strCells] at hv
      subst hv
      simp [hl]
    | j + 1 => simp [strCells] at hv
theorem Cur.set_ {W w : World} {b : Nat} {A : Option Addr} {n c : Nat} (h : Cur W w b A n c) {p : Addr} (hp : b < p.block) (u : Value) : Cur W (w.setCell p u) b A n c :=
  h.keep (bSet h.hB (by have := h.hb; omega) u) (Below.heap_setCell _ _ _ _ (by omega))
/-- a pose near the origin -/
def nearP (M t x y : Int) : Prop := 0 ≤ t ∧ t ≤ 3 ∧ -M ≤ x ∧ x ≤ M ∧ -M ≤ y ∧ y ≤ M
theorem l05Draw_c {W w : World} {b : Nat} {A : Option Addr} {n c : Nat} (hy : Bytes W A n) (hn : n ≤ 1048576) (h : Cur W w b A n c) :
    Calls Tryd.prog 83 #[.pointer (some ⟨b, 0, none⟩)] w fun e w' => ∃ t x y, e = .returned (vPose t x y) ∧ nearP 20 t x y ∧ Cur W w' b A n c ∧ Upd [b] w w' := by
  have hlt := h.lt
  have hy' := Lib.hid hy
  have HC := Lib.hid (h.below (bAlloc (Below.refl _ _) (.cells #[.int .i64 0, .int .i64 0, .int .i64 0] 26)))
  clear h hy
  go_enter Tryd.func83, Tryd.ntmps83
  go_wp2_with fail
  refine Calls.mono (l01Below_c hy'.out hn HC.out 4 (by omega) (by omega)) ?_
  rintro e w1 ⟨t, rfl, ht0, ht1, hc1, hu1⟩
  have HC1 := Lib.hid hc1
  have U1 : Upd [b] w w1 := (Upd.of_below (bAlloc (Below.refl _ _) _)).trans hu1
  have q0 := uBox hu1 w.heap.size (by simp) (by simp; omega)
  have f0 := uBoxF hu1 w.heap.size (by simp) (by simp; omega)
  have z1 : w.heap.size < w1.heap.size := by have := hu1.size; simp at this; omega
  clear hc1 HC
  go_wp2_with fail
  refine Calls.mono (l01Below_c hy'.out hn HC1.out 41 (by omega) (by omega)) ?_
  rintro e w2 ⟨x, rfl, hx0, hx1, hc2, hu2⟩
  have HC2 := Lib.hid hc2
  have U2 := U1.trans hu2
  have q1 := uBox hu2 w.heap.size z1 (by simp; omega)
  have f1 := uBoxF hu2 w.heap.size z1 (by simp; omega)
  have z2 : w.heap.size < w2.heap.size := by have := hu2.size; omega
  clear hc2 HC1
  go_wp2_with fail
  refine Calls.mono (l01Below_c hy'.out hn HC2.out 41 (by omega) (by omega)) ?_
  rintro e w3 ⟨y, rfl, hy0, hy1, hc3, hu3⟩
  have U3 := U2.trans hu3
  have q2 := uBox hu3 w.heap.size z2 (by simp; omega)
  have f2 := uBoxF hu3 w.heap.size z2 (by simp; omega)
  have z3 : w.heap.size < w3.heap.size := by have := hu3.size; omega
  have hc4 := ((hc3.set_ (p := ⟨w.heap.size, 0, none⟩) hlt (.int .i64 t)).set_ (p := ⟨w.heap.size, 1, none⟩) hlt (.int .i64 (x - 20))).set_ (p := ⟨w.heap.size, 2, none⟩) hlt (.int .i64 (y - 20))
  have U4 := ((U3.set_new (p := ⟨w.heap.size, 0, none⟩) (Nat.le_refl _) (.int .i64 t)).set_new (p := ⟨w.heap.size, 1, none⟩) (Nat.le_refl _) (.int .i64 (x - 20))).set_new (p := ⟨w.heap.size, 2, none⟩) (Nat.le_refl _) (.int .i64 (y - 20))
  clear hc3 HC2
  go_wp2
  exact bodyPost_ret (v := vPose t (x - 20) (y - 20)) (by simp [*, results, Tryd.results83, go_sem]) rfl ⟨t, x - 20, y - 20, rfl, ⟨by omega, by omega, by omega, by omega, by omega, by omega⟩, hc4, U4⟩
theorem l16Pose_c {W w : World} {b : Nat} {A : Option Addr} {n c : Nat} (hy : Bytes W A n) (hn : n ≤ 1048576) (h : Cur W w b A n c) :
    Calls Tryd.prog 90 #[.pointer (some ⟨b, 0, none⟩)] w fun e w' => ∃ x, e = .returned (.string x) ∧ x ∈ [(⟨#[112, 48]⟩ : ByteArray), ⟨#[112, 49]⟩, ⟨#[112, 50]⟩, ⟨#[112, 51]⟩] ∧ Cur W w' b A n c ∧ Upd [b] w w' := by
  have hlt := h.lt
  have hy' := Lib.hid hy
  have HC := Lib.hid (h.below (bAlloc (Below.refl _ _) (.cells #[.string ⟨#[112, 48]⟩, .string ⟨#[112, 49]⟩, .string ⟨#[112, 50]⟩, .string ⟨#[112, 51]⟩] 9)))
  have hrow := Lib.hid (str_row w [(⟨#[112, 48]⟩ : ByteArray), ⟨#[112, 49]⟩, ⟨#[112, 50]⟩, ⟨#[112, 51]⟩])
  clear h hy
  go_enter Tryd.func90, Tryd.ntmps90
  go_wp2_with fail
  refine Calls.mono (l01Str_c hy'.out hn HC.out _ 4 4 _ hrow.out (by omega) (by omega) (by omega)) ?_
  rintro e w1 ⟨x, rfl, hx, hc1, hu1⟩
  have HX := Lib.hid hx
  clear hx
  go_wp2
  go_ret
  exact ⟨x, rfl, HX.out, hc1, (Upd.of_below (bAlloc (Below.refl _ _) _)).trans hu1⟩
end Go.Proofs.YtebcdjpddoaajaaDoor

/- l16Draw: a valid factor. -/
namespace Go.Proofs.YtebcdjpddoaajaaDoor
open Go.RowKit
set_option linter.unusedVariables false
set_option linter.unusedSimpArgs false
set_option maxHeartbeats 1000000
set_option maxRecDepth 100000
abbrev pNames : List ByteArray := [(⟨#[112, 48]⟩ : ByteArray), ⟨#[112, 49]⟩, ⟨#[112, 50]⟩, ⟨#[112, 51]⟩]
abbrev mNames : List ByteArray := [(⟨#[109, 48]⟩ : ByteArray), ⟨#[109, 49]⟩]
theorem pNames_ok : ∀ s ∈ pNames, isPoseNm s = true ∧ (s.toList == (⟨#[112, 52]⟩ : ByteArray).toList) = false ∧ s.toList.isEmpty = false ∧ s.size = 2 := by decide +kernel
theorem mNames_ok : ∀ s ∈ mNames, isLandNm s = true ∧ (s.toList == (⟨#[112, 52]⟩ : ByteArray).toList) = false ∧ s.size = 2 := by decide +kernel
theorem mp_ne : ∀ s ∈ pNames, ∀ t ∈ mNames, (s.toList == t.toList) = false := by decide +kernel
theorem p4_ok : isPoseNm (⟨#[112, 52]⟩ : ByteArray) = true := by decide +kernel
theorem nearP.vld {M t x y : Int} (h : nearP M t x y) (hM : M ≤ 1000000) : vldPose t x y = true := by
  obtain ⟨h1, h2, h3, h4, h5, h6⟩ := h
  simp only [vldPose, Bool.and_eq_true]
  exact ⟨inR_iff.2 ⟨h1, h2⟩, inR_iff.2 ⟨by omega, by omega⟩, inR_iff.2 ⟨by omega, by omega⟩⟩
/-- a valid factor, out of its parts -/
theorem vld_prior {id t x y wt : Int} {to : ByteArray} (h1 : inR id 0 99999 = true) (h2 : vldPose t x y = true) (h3 : inR wt 1 9999 = true) (h4 : isPoseNm to = true) : vldFactor ⟨id, 1, ⟨#[]⟩, to, ⟨t, x, y⟩, wt⟩ = true := by
  have e : (⟨#[]⟩ : ByteArray).toList.isEmpty = true := by decide +kernel
  simp [vldFactor, vldF, h1, h2, h3, h4, e]
theorem vld_two {id k t x y wt : Int} {fr to : ByteArray} (hk : k = 2 ∨ k = 4) (h1 : inR id 0 99999 = true) (h2 : vldPose t x y = true) (h3 : inR wt 1 9999 = true) (h4 : isPoseNm fr = true) (h5 : isPoseNm to = true) (h6 : (fr.toList == to.toList) = false) : vldFactor ⟨id, k, fr, to, ⟨t, x, y⟩, wt⟩ = true := by
  have hk1 : ¬ k = 1 := by omega
  simp only [vldFactor, vldF, h1, h2, h3, h4, h5, h6, hk1, hk, if_false, if_true]; rfl
theorem vld_land {id x y wt : Int} {fr to : ByteArray} (h1 : inR id 0 99999 = true) (h2 : vldPose 0 x y = true) (h3 : inR wt 1 9999 = true) (h4 : isPoseNm fr = true) (h5 : isLandNm to = true) : vldFactor ⟨id, 3, fr, to, ⟨0, x, y⟩, wt⟩ = true := by
  simp [vldFactor, vldF, h1, h2, h3, h4, h5]
theorem cells_b {w : World} {cs : Array Value} {t : TypeId} {k : Nat} {v : Value} (h : cs[k]? = some v) : (w.alloc (.cells cs t)).cell? ⟨w.heap.size, k, none⟩ = some v := by
  have e : (w.alloc (.cells cs t)).heap[w.heap.size]? = some (.cells cs t) := heap_alloc_new w _
  unfold World.cell?
  rw [e]
  exact h
theorem frozen_b (w : World) (cs : Array Value) (t : TypeId) (o : Obj) (k : Nat) : ((w.alloc (.cells cs t)).alloc o).frozen? ⟨w.heap.size, k, none⟩ = false := by
  have e : ((w.alloc (.cells cs t)).alloc o).heap[w.heap.size]? = some (.cells cs t) := ((bAlloc (Below.refl (w.alloc (.cells cs t)).heap.size (w.alloc (.cells cs t))) o).block w.heap.size (by simp)).trans (heap_alloc_new w _)
  unfold World.frozen?
  rw [e]
  rfl
theorem Cur.alloc_ {W w : World} {b : Nat} {A : Option Addr} {n c : Nat} (h : Cur W w b A n c) (o : Obj) : Cur W (w.alloc o) b A n c := h.below (bAlloc (Below.refl _ _) o)
theorem frozen_a (w : World) (cs : Array Value) (t : TypeId) (k : Nat) : (w.alloc (.cells cs t)).frozen? ⟨w.heap.size, k, none⟩ = false := by
  have e : (w.alloc (.cells cs t)).heap[w.heap.size]? = some (.cells cs t) := heap_alloc_new w _
  unfold World.frozen?
  rw [e]
  rfl
theorem frozen_al {w : World} {o : Obj} {g k : Nat} (h : g < w.heap.size) (hf : w.frozen? ⟨g, k, none⟩ = false) : (w.alloc o).frozen? ⟨g, k, none⟩ = false := ((bAlloc (Below.refl w.heap.size w) o).frozen (p := ⟨g, k, none⟩) h).trans hf
theorem pick_row' (w : World) (g : Nat) (hg : g = w.heap.size) (a0 a1 a2 a3 a4 : Int) : RowI (w.alloc (.cells #[.int .i64 a0, .int .i64 a1, .int .i64 a2, .int .i64 a3, .int .i64 a4] 3)) (some ⟨g, 0, none⟩) 5 [a0, a1, a2, a3, a4] := by subst hg; exact pick_row w a0 a1 a2 a3 a4
theorem str_row' (w : World) (g : Nat) (hg : g = w.heap.size) (l : List ByteArray) : RowS (w.alloc (.cells (l.map Value.string).toArray 9)) (some ⟨g, 0, none⟩) l.length l := by subst hg; exact str_row w l
theorem l16Draw_c {W w : World} {b : Nat} {A : Option Addr} {n c : Nat} (hy : Bytes W A n) (hn : n ≤ 1048576) (h : Cur W w b A n c) (id : Int) (hid : inR id 0 99999 = true) :
    Calls Tryd.prog 47 #[.pointer (some ⟨b, 0, none⟩), .int .i64 id] w fun e w' => ∃ k fr to t x y wt, e = .returned (vFactor id k fr to t x y wt) ∧ vldFactor ⟨id, k, fr, to, ⟨t, x, y⟩, wt⟩ = true ∧ Cur W w' b A n c ∧ Upd [b] w w' := by
  have hlt := h.lt
  have hy' := Lib.hid hy
  have hz : Below w.heap.size w (w.alloc (.cells #[.int .i64 0, .int .i64 0, .string ⟨#[]⟩, .string ⟨#[]⟩, .int .i64 0, .int .i64 0, .int .i64 0, .int .i64 0] 28)) := bAlloc (Below.refl _ _) _
  have hc0 := h.below hz
  have HC := Lib.hid (hc0.below (bAlloc (Below.refl _ _) (.cells #[.int .i64 1, .int .i64 2, .int .i64 2, .int .i64 3, .int .i64 4] 3)))
  have hrow := Lib.hid (pick_row' (w.alloc (.cells #[.int .i64 0, .int .i64 0, .string ⟨#[]⟩, .string ⟨#[]⟩, .int .i64 0, .int .i64 0, .int .i64 0, .int .i64 0] 28)) (w.heap.size + 1) (by simp) 1 2 2 3 4)
  have HID := Lib.hid hid
  clear h hy hc0 hz hid
  go_enter Tryd.func47, Tryd.ntmps47
  go_wp2_with fail
  refine Calls.mono (l01Pick_c hy'.out hn HC.out _ 5 5 _ hrow.out (by simp; omega) (by omega) (by omega)) ?_
  rintro e w1 ⟨k, rfl, hk, hc1, hu1⟩
  have HC1 := Lib.hid hc1
  have U1 : Upd [b] w w1 := (Upd.of_below (bAlloc (bAlloc (Below.refl _ _) _) _)).trans hu1
  have q1 := uBox hu1 w.heap.size (by simp; omega) (by simp; omega)
  have f1 := uBoxF hu1 w.heap.size (by simp; omega) (by simp; omega)
  have z1 : w.heap.size + 1 < w1.heap.size := by have := hu1.size; simp at this; omega
  have HK := Lib.hid hk
  clear hc1 HC hrow hu1 hk
  go_wp2_with fail
  refine Calls.mono (l16Pose_c hy'.out hn HC1.out) ?_
  rintro e w2 ⟨to, rfl, hto, hc2, hu2⟩
  have HTO := Lib.hid hto
  have HC2 := Lib.hid hc2
  have U2 := U1.trans hu2
  have q2 := uBox hu2 w.heap.size (by omega) (by simp; omega)
  have f2 := uBoxF hu2 w.heap.size (by omega) (by simp; omega)
  have z2 : w.heap.size + 1 < w2.heap.size := by have := hu2.size; omega
  clear hc2 HC1 hu2 hto
  go_wp2_with fail
  refine Calls.mono (l05Draw_c hy'.out hn HC2.out) ?_
  rintro e w3 ⟨t, x, y, rfl, hp, hc3, hu3⟩
  have HP := Lib.hid hp
  have HC3 := Lib.hid hc3
  have U3 := U2.trans hu3
  have q3 := uBox hu3 w.heap.size (by omega) (by simp; omega)
  have f3 := uBoxF hu3 w.heap.size (by omega) (by simp; omega)
  have z3 : w.heap.size + 1 < w3.heap.size := by have := hu3.size; omega
  clear hc3 HC2 hu3 hp
  go_wp2_with fail
  refine Calls.mono (l01Below_c hy'.out hn HC3.out 9 (by omega) (by omega)) ?_
  rintro e w4 ⟨wt, rfl, hw0, hw1, hc4, hu4⟩
  have HC4 := Lib.hid (hc4.below (bAlloc (Below.refl _ _) (.cells #[.int .i64 id, .int .i64 k, .string ⟨#[]⟩, .string to, .int .i64 t, .int .i64 x, .int .i64 y, .int .i64 (1 + wt)] 28)))
  have U4 : Upd [b] w (w4.alloc (.cells #[.int .i64 id, .int .i64 k, .string ⟨#[]⟩, .string to, .int .i64 t, .int .i64 x, .int .i64 y, .int .i64 (1 + wt)] 28)) := (U3.trans hu4).alloc_ _
  have q4 := uBox hu4 w.heap.size (by omega) (by simp; omega)
  have f4 := uBoxF hu4 w.heap.size (by omega) (by simp; omega)
  have z4 : w.heap.size + 1 < w4.heap.size := by have := hu4.size; omega
  have hwt := Lib.hid (inR_iff.2 (show 1 ≤ 1 + wt ∧ 1 + wt ≤ 9999 from ⟨by omega, by omega⟩))
  have s4 : ∀ (j : Nat) (v : Value), (#[.int .i64 0, .int .i64 0, .string ⟨#[]⟩, .string ⟨#[]⟩, .int .i64 0, .int .i64 0, .int .i64 0, .int .i64 0] : Array Value)[j]? = some v → w4.cell? ⟨w.heap.size, j, none⟩ = some v := fun j v hv => by
    rw [q4, q3, q2, q1]
    exact bCell (bAlloc (Below.refl _ _) _) (cells_b hv)
  have d0 := s4 0 _ rfl; have d1 := s4 1 _ rfl; have d2 := s4 2 _ rfl; have d3 := s4 3 _ rfl
  have d4 := s4 4 _ rfl; have d5 := s4 5 _ rfl; have d6 := s4 6 _ rfl; have d7 := s4 7 _ rfl
  have g4 : ∀ o, w4.frozen? ⟨w.heap.size, o, none⟩ = false := fun o => by rw [f4, f3, f2, f1]; exact frozen_b _ _ _ _ _
  have z5 : w.heap.size < w4.heap.size := by omega
  have U4w := U3.trans hu4
  have hcw := hc4
  clear s4 q1 q2 q3 q4 f1 f2 f3 f4 z1 z2 z3 hc4 HC3 hu4
  have hkk : k = 1 ∨ k = 2 ∨ k = 3 ∨ k = 4 := by have := HK.out; simp at this; omega
  have UW := Lib.hid U4w
  have HCw := Lib.hid hcw
  clear U4w hcw HK
  rcases hkk with rfl | rfl | rfl | rfl
  · obtain ⟨o1, o2, o3, o4⟩ := pNames_ok to HTO.out
    have hne : (([] : List UInt8) == to.toList) = false := by
      cases h : to.toList with
      | nil => rw [h] at o3; cases o3
      | cons a l => rfl
    have hvl := Lib.hid (vld_prior (id := id) (to := to) HID.out (HP.out.vld (by omega)) hwt.out o1)
    clear o1 o2
    go_wp2
    exact bodyPost_ret (v := vFactor id 1 ⟨#[]⟩ to t x y (1 + wt)) (by simp [*, results, Tryd.results47, go_sem]) rfl ⟨1, ⟨#[]⟩, to, t, x, y, 1 + wt, rfl, hvl.out, (by repeat (first | with_reducible exact HCw.out | ((with_reducible refine Cur.set_ ?_ ?_ _); rotate_left; (first | (simp; omega) | (simp) | omega)) | with_reducible refine Cur.alloc_ ?_ _)), (by repeat (first | with_reducible exact UW.out | ((with_reducible refine Upd.set_new ?_ ?_ _); rotate_left; (first | (simp; omega) | (simp) | omega)) | with_reducible refine Upd.alloc_ ?_ _))⟩
  · obtain ⟨o1, o2, o3, o4⟩ := pNames_ok to HTO.out
    go_wp2_with fail
    refine Calls.mono (l16Pose_c hy'.out hn HC4.out) ?_
    rintro e w5 ⟨fr, rfl, hfr, hc5, hu5⟩
    obtain ⟨p1, p2, p3, p4⟩ := pNames_ok fr hfr
    have a0 : w5.cell? ⟨w4.heap.size, 0, none⟩ = some (.int .i64 id) := (uBox hu5 (w4.heap.size) (by simp) (by simp; omega) _).trans (cells_b rfl)
    have a1 : w5.cell? ⟨w4.heap.size, 1, none⟩ = some (.int .i64 2) := (uBox hu5 (w4.heap.size) (by simp) (by simp; omega) _).trans (cells_b rfl)
    have a2 : w5.cell? ⟨w4.heap.size, 2, none⟩ = some (.string ⟨#[]⟩) := (uBox hu5 (w4.heap.size) (by simp) (by simp; omega) _).trans (cells_b rfl)
    have a3 : w5.cell? ⟨w4.heap.size, 3, none⟩ = some (.string to) := (uBox hu5 (w4.heap.size) (by simp) (by simp; omega) _).trans (cells_b rfl)
    have a4 : w5.cell? ⟨w4.heap.size, 4, none⟩ = some (.int .i64 t) := (uBox hu5 (w4.heap.size) (by simp) (by simp; omega) _).trans (cells_b rfl)
    have a5 : w5.cell? ⟨w4.heap.size, 5, none⟩ = some (.int .i64 x) := (uBox hu5 (w4.heap.size) (by simp) (by simp; omega) _).trans (cells_b rfl)
    have a6 : w5.cell? ⟨w4.heap.size, 6, none⟩ = some (.int .i64 y) := (uBox hu5 (w4.heap.size) (by simp) (by simp; omega) _).trans (cells_b rfl)
    have a7 : w5.cell? ⟨w4.heap.size, 7, none⟩ = some (.int .i64 (1 + wt)) := (uBox hu5 (w4.heap.size) (by simp) (by simp; omega) _).trans (cells_b rfl)
    have af : ∀ o, w5.frozen? ⟨w4.heap.size, o, none⟩ = false := fun o => (uBoxF hu5 (w4.heap.size) (by simp) (by simp; omega) _).trans (frozen_a _ _ _ _)
    have az : w4.heap.size < w5.heap.size := by have := hu5.size; simp at this; omega
    have r0 : w5.cell? ⟨w.heap.size, 0, none⟩ = some (.int .i64 0) := (uBox hu5 (w.heap.size) (by simp; omega) (by simp; omega) _).trans (bCell (bAlloc (Below.refl _ _) _) d0)
    have r1 : w5.cell? ⟨w.heap.size, 1, none⟩ = some (.int .i64 0) := (uBox hu5 (w.heap.size) (by simp; omega) (by simp; omega) _).trans (bCell (bAlloc (Below.refl _ _) _) d1)
    have r2 : w5.cell? ⟨w.heap.size, 2, none⟩ = some (.string ⟨#[]⟩) := (uBox hu5 (w.heap.size) (by simp; omega) (by simp; omega) _).trans (bCell (bAlloc (Below.refl _ _) _) d2)
    have r3 : w5.cell? ⟨w.heap.size, 3, none⟩ = some (.string ⟨#[]⟩) := (uBox hu5 (w.heap.size) (by simp; omega) (by simp; omega) _).trans (bCell (bAlloc (Below.refl _ _) _) d3)
    have r4 : w5.cell? ⟨w.heap.size, 4, none⟩ = some (.int .i64 0) := (uBox hu5 (w.heap.size) (by simp; omega) (by simp; omega) _).trans (bCell (bAlloc (Below.refl _ _) _) d4)
    have r5 : w5.cell? ⟨w.heap.size, 5, none⟩ = some (.int .i64 0) := (uBox hu5 (w.heap.size) (by simp; omega) (by simp; omega) _).trans (bCell (bAlloc (Below.refl _ _) _) d5)
    have r6 : w5.cell? ⟨w.heap.size, 6, none⟩ = some (.int .i64 0) := (uBox hu5 (w.heap.size) (by simp; omega) (by simp; omega) _).trans (bCell (bAlloc (Below.refl _ _) _) d6)
    have r7 : w5.cell? ⟨w.heap.size, 7, none⟩ = some (.int .i64 0) := (uBox hu5 (w.heap.size) (by simp; omega) (by simp; omega) _).trans (bCell (bAlloc (Below.refl _ _) _) d7)
    have rf : ∀ o, w5.frozen? ⟨w.heap.size, o, none⟩ = false := fun o => (uBoxF hu5 (w.heap.size) (by simp; omega) (by simp; omega) _).trans (frozen_al z5 (g4 o))
    have rz : w.heap.size < w5.heap.size := by have := hu5.size; simp at this; omega
    have U5 := Lib.hid (U4.trans hu5)
    have HC5 := Lib.hid hc5
    clear d0 d1 d2 d3 d4 d5 d6 d7 g4 hc5 hu5 HC4 HCw UW z5
    cases heq : (fr.toList == to.toList)
    · have hvl := Lib.hid (vld_two (id := id) (k := 2) (by omega) HID.out (HP.out.vld (by omega)) hwt.out p1 o1 heq)
      clear p1 o1 p2 o2
      go_wp2
      exact bodyPost_ret (v := vFactor id 2 fr to t x y (1 + wt)) (by simp [*, results, Tryd.results47, go_sem]) rfl ⟨2, fr, to, t, x, y, 1 + wt, rfl, hvl.out, (by repeat (first | with_reducible exact HC5.out | ((with_reducible refine Cur.set_ ?_ ?_ _); rotate_left; (first | (simp; omega) | (simp) | omega)) | with_reducible refine Cur.alloc_ ?_ _)), (by repeat (first | with_reducible exact U5.out | ((with_reducible refine Upd.set_new ?_ ?_ _); rotate_left; (first | (simp; omega) | (simp) | omega)) | with_reducible refine Upd.alloc_ ?_ _))⟩
    · have o2' : ((⟨#[112, 52]⟩ : ByteArray).toList == to.toList) = false := by
        rw [Bool.eq_false_iff] at o2 ⊢
        intro h; exact o2 (by rw [beq_iff_eq] at h ⊢; exact h.symm)
      have hvl := Lib.hid (vld_two (id := id) (k := 2) (by omega) HID.out (HP.out.vld (by omega)) hwt.out p4_ok o1 o2')
      clear p1 o1 p2 o2 o2'
      go_wp2
      exact bodyPost_ret (v := vFactor id 2 ⟨#[112, 52]⟩ to t x y (1 + wt)) (by simp [*, results, Tryd.results47, go_sem]) rfl ⟨2, ⟨#[112, 52]⟩, to, t, x, y, 1 + wt, rfl, hvl.out, (by repeat (first | with_reducible exact HC5.out | ((with_reducible refine Cur.set_ ?_ ?_ _); rotate_left; (first | (simp; omega) | (simp) | omega)) | with_reducible refine Cur.alloc_ ?_ _)), (by repeat (first | with_reducible exact U5.out | ((with_reducible refine Upd.set_new ?_ ?_ _); rotate_left; (first | (simp; omega) | (simp) | omega)) | with_reducible refine Upd.alloc_ ?_ _))⟩
  · obtain ⟨o1, o2, o3, o4⟩ := pNames_ok to HTO.out
    go_wp2_with fail
    refine Calls.mono (l16Pose_c hy'.out hn HC4.out) ?_
    rintro e w5 ⟨fr, rfl, hfr, hc5, hu5⟩
    obtain ⟨p1, p2, p3, p4⟩ := pNames_ok fr hfr
    have a0 : w5.cell? ⟨w4.heap.size, 0, none⟩ = some (.int .i64 id) := (uBox hu5 (w4.heap.size) (by simp) (by simp; omega) _).trans (cells_b rfl)
    have a1 : w5.cell? ⟨w4.heap.size, 1, none⟩ = some (.int .i64 3) := (uBox hu5 (w4.heap.size) (by simp) (by simp; omega) _).trans (cells_b rfl)
    have a2 : w5.cell? ⟨w4.heap.size, 2, none⟩ = some (.string ⟨#[]⟩) := (uBox hu5 (w4.heap.size) (by simp) (by simp; omega) _).trans (cells_b rfl)
    have a3 : w5.cell? ⟨w4.heap.size, 3, none⟩ = some (.string to) := (uBox hu5 (w4.heap.size) (by simp) (by simp; omega) _).trans (cells_b rfl)
    have a4 : w5.cell? ⟨w4.heap.size, 4, none⟩ = some (.int .i64 t) := (uBox hu5 (w4.heap.size) (by simp) (by simp; omega) _).trans (cells_b rfl)
    have a5 : w5.cell? ⟨w4.heap.size, 5, none⟩ = some (.int .i64 x) := (uBox hu5 (w4.heap.size) (by simp) (by simp; omega) _).trans (cells_b rfl)
    have a6 : w5.cell? ⟨w4.heap.size, 6, none⟩ = some (.int .i64 y) := (uBox hu5 (w4.heap.size) (by simp) (by simp; omega) _).trans (cells_b rfl)
    have a7 : w5.cell? ⟨w4.heap.size, 7, none⟩ = some (.int .i64 (1 + wt)) := (uBox hu5 (w4.heap.size) (by simp) (by simp; omega) _).trans (cells_b rfl)
    have af : ∀ o, w5.frozen? ⟨w4.heap.size, o, none⟩ = false := fun o => (uBoxF hu5 (w4.heap.size) (by simp) (by simp; omega) _).trans (frozen_a _ _ _ _)
    have az : w4.heap.size < w5.heap.size := by have := hu5.size; simp at this; omega
    have r0 : w5.cell? ⟨w.heap.size, 0, none⟩ = some (.int .i64 0) := (uBox hu5 (w.heap.size) (by simp; omega) (by simp; omega) _).trans (bCell (bAlloc (Below.refl _ _) _) d0)
    have r1 : w5.cell? ⟨w.heap.size, 1, none⟩ = some (.int .i64 0) := (uBox hu5 (w.heap.size) (by simp; omega) (by simp; omega) _).trans (bCell (bAlloc (Below.refl _ _) _) d1)
    have r2 : w5.cell? ⟨w.heap.size, 2, none⟩ = some (.string ⟨#[]⟩) := (uBox hu5 (w.heap.size) (by simp; omega) (by simp; omega) _).trans (bCell (bAlloc (Below.refl _ _) _) d2)
    have r3 : w5.cell? ⟨w.heap.size, 3, none⟩ = some (.string ⟨#[]⟩) := (uBox hu5 (w.heap.size) (by simp; omega) (by simp; omega) _).trans (bCell (bAlloc (Below.refl _ _) _) d3)
    have r4 : w5.cell? ⟨w.heap.size, 4, none⟩ = some (.int .i64 0) := (uBox hu5 (w.heap.size) (by simp; omega) (by simp; omega) _).trans (bCell (bAlloc (Below.refl _ _) _) d4)
    have r5 : w5.cell? ⟨w.heap.size, 5, none⟩ = some (.int .i64 0) := (uBox hu5 (w.heap.size) (by simp; omega) (by simp; omega) _).trans (bCell (bAlloc (Below.refl _ _) _) d5)
    have r6 : w5.cell? ⟨w.heap.size, 6, none⟩ = some (.int .i64 0) := (uBox hu5 (w.heap.size) (by simp; omega) (by simp; omega) _).trans (bCell (bAlloc (Below.refl _ _) _) d6)
    have r7 : w5.cell? ⟨w.heap.size, 7, none⟩ = some (.int .i64 0) := (uBox hu5 (w.heap.size) (by simp; omega) (by simp; omega) _).trans (bCell (bAlloc (Below.refl _ _) _) d7)
    have rf : ∀ o, w5.frozen? ⟨w.heap.size, o, none⟩ = false := fun o => (uBoxF hu5 (w.heap.size) (by simp; omega) (by simp; omega) _).trans (frozen_al z5 (g4 o))
    have rz : w.heap.size < w5.heap.size := by have := hu5.size; simp at this; omega
    have U5 := Lib.hid (U4.trans hu5)
    have HC5 := Lib.hid hc5
    clear d0 d1 d2 d3 d4 d5 d6 d7 g4 hc5 hu5 HC4 HCw UW z5
    have hrow2 := Lib.hid (str_row' (w5.setCell ⟨w4.heap.size, 2, none⟩ (.string fr)) w5.heap.size (by simp) mNames)
    have HC6 := Lib.hid ((HC5.out.set_ (p := ⟨w4.heap.size, 2, none⟩) (by simp; omega) (.string fr)).alloc_ (.cells #[.string ⟨#[109, 48]⟩, .string ⟨#[109, 49]⟩] 9))
    have U6 := Lib.hid ((U5.out.set_new (p := ⟨w4.heap.size, 2, none⟩) (by simp; omega) (.string fr)).alloc_ (.cells #[.string ⟨#[109, 48]⟩, .string ⟨#[109, 49]⟩] 9))
    clear HC5 U5
    go_wp2_with fail
    refine Calls.mono (l01Str_c hy'.out hn HC6.out _ 2 2 _ hrow2.out (by omega) (by omega) (by omega)) ?_
    rintro e w6 ⟨tl, rfl, htl, hc6, hu6⟩
    obtain ⟨l1, l2, l4⟩ := mNames_ok tl htl
    have hne := mp_ne fr hfr tl htl
    have hvl := Lib.hid (vld_land (id := id) (to := tl) HID.out (show vldPose 0 x y = true from nearP.vld (M := 20) ⟨by omega, by omega, HP.out.2.2⟩ (by omega)) hwt.out p1 l1)
    have U7 := Lib.hid (U6.out.trans hu6)
    have HC7 := Lib.hid hc6
    have m0 : w6.cell? ⟨w4.heap.size, 0, none⟩ = some (.int .i64 id) := (uBox hu6 (w4.heap.size) (by simp; omega) (by simp; omega) _).trans (by go_simp)
    have m1 : w6.cell? ⟨w4.heap.size, 1, none⟩ = some (.int .i64 3) := (uBox hu6 (w4.heap.size) (by simp; omega) (by simp; omega) _).trans (by go_simp)
    have m2 : w6.cell? ⟨w4.heap.size, 2, none⟩ = some (.string fr) := (uBox hu6 (w4.heap.size) (by simp; omega) (by simp; omega) _).trans (by go_simp)
    have m3 : w6.cell? ⟨w4.heap.size, 3, none⟩ = some (.string to) := (uBox hu6 (w4.heap.size) (by simp; omega) (by simp; omega) _).trans (by go_simp)
    have m4 : w6.cell? ⟨w4.heap.size, 4, none⟩ = some (.int .i64 t) := (uBox hu6 (w4.heap.size) (by simp; omega) (by simp; omega) _).trans (by go_simp)
    have m5 : w6.cell? ⟨w4.heap.size, 5, none⟩ = some (.int .i64 x) := (uBox hu6 (w4.heap.size) (by simp; omega) (by simp; omega) _).trans (by go_simp)
    have m6 : w6.cell? ⟨w4.heap.size, 6, none⟩ = some (.int .i64 y) := (uBox hu6 (w4.heap.size) (by simp; omega) (by simp; omega) _).trans (by go_simp)
    have m7 : w6.cell? ⟨w4.heap.size, 7, none⟩ = some (.int .i64 (1 + wt)) := (uBox hu6 (w4.heap.size) (by simp; omega) (by simp; omega) _).trans (by go_simp)
    have mf : ∀ o, w6.frozen? ⟨w4.heap.size, o, none⟩ = false := fun o => (uBoxF hu6 (w4.heap.size) (by simp; omega) (by simp; omega) _).trans (by go_simp)
    have mz : w4.heap.size < w6.heap.size := by have := hu6.size; simp at this; omega
    have s0 : w6.cell? ⟨w.heap.size, 0, none⟩ = some (.int .i64 0) := (uBox hu6 (w.heap.size) (by simp; omega) (by simp; omega) _).trans (by go_simp)
    have s1 : w6.cell? ⟨w.heap.size, 1, none⟩ = some (.int .i64 0) := (uBox hu6 (w.heap.size) (by simp; omega) (by simp; omega) _).trans (by go_simp)
    have s2 : w6.cell? ⟨w.heap.size, 2, none⟩ = some (.string ⟨#[]⟩) := (uBox hu6 (w.heap.size) (by simp; omega) (by simp; omega) _).trans (by go_simp)
    have s3 : w6.cell? ⟨w.heap.size, 3, none⟩ = some (.string ⟨#[]⟩) := (uBox hu6 (w.heap.size) (by simp; omega) (by simp; omega) _).trans (by go_simp)
    have s4 : w6.cell? ⟨w.heap.size, 4, none⟩ = some (.int .i64 0) := (uBox hu6 (w.heap.size) (by simp; omega) (by simp; omega) _).trans (by go_simp)
    have s5 : w6.cell? ⟨w.heap.size, 5, none⟩ = some (.int .i64 0) := (uBox hu6 (w.heap.size) (by simp; omega) (by simp; omega) _).trans (by go_simp)
    have s6 : w6.cell? ⟨w.heap.size, 6, none⟩ = some (.int .i64 0) := (uBox hu6 (w.heap.size) (by simp; omega) (by simp; omega) _).trans (by go_simp)
    have s7 : w6.cell? ⟨w.heap.size, 7, none⟩ = some (.int .i64 0) := (uBox hu6 (w.heap.size) (by simp; omega) (by simp; omega) _).trans (by go_simp)
    have sf : ∀ o, w6.frozen? ⟨w.heap.size, o, none⟩ = false := fun o => (uBoxF hu6 (w.heap.size) (by simp; omega) (by simp; omega) _).trans (by go_simp)
    have sz : w.heap.size < w6.heap.size := by have := hu6.size; simp at this; omega
    clear a0 a1 a2 a3 a4 a5 a6 a7 af az r0 r1 r2 r3 r4 r5 r6 r7 rf rz hc6 hu6 HC6 U6 hrow2 p1 l1 l2 p2 htl hfr
    go_wp2
    exact bodyPost_ret (v := vFactor id 3 fr tl 0 x y (1 + wt)) (by simp [*, results, Tryd.results47, go_sem]) rfl ⟨3, fr, tl, 0, x, y, 1 + wt, rfl, hvl.out, (by repeat (first | with_reducible exact HC7.out | ((with_reducible refine Cur.set_ ?_ ?_ _); rotate_left; (first | (simp; omega) | (simp) | omega)) | with_reducible refine Cur.alloc_ ?_ _)), (by repeat (first | with_reducible exact U7.out | ((with_reducible refine Upd.set_new ?_ ?_ _); rotate_left; (first | (simp; omega) | (simp) | omega)) | with_reducible refine Upd.alloc_ ?_ _))⟩
  · obtain ⟨o1, o2, o3, o4⟩ := pNames_ok to HTO.out
    go_wp2_with fail
    refine Calls.mono (l16Pose_c hy'.out hn HC4.out) ?_
    rintro e w5 ⟨fr, rfl, hfr, hc5, hu5⟩
    obtain ⟨p1, p2, p3, p4⟩ := pNames_ok fr hfr
    have a0 : w5.cell? ⟨w4.heap.size, 0, none⟩ = some (.int .i64 id) := (uBox hu5 (w4.heap.size) (by simp) (by simp; omega) _).trans (cells_b rfl)
    have a1 : w5.cell? ⟨w4.heap.size, 1, none⟩ = some (.int .i64 4) := (uBox hu5 (w4.heap.size) (by simp) (by simp; omega) _).trans (cells_b rfl)
    have a2 : w5.cell? ⟨w4.heap.size, 2, none⟩ = some (.string ⟨#[]⟩) := (uBox hu5 (w4.heap.size) (by simp) (by simp; omega) _).trans (cells_b rfl)
    have a3 : w5.cell? ⟨w4.heap.size, 3, none⟩ = some (.string to) := (uBox hu5 (w4.heap.size) (by simp) (by simp; omega) _).trans (cells_b rfl)
    have a4 : w5.cell? ⟨w4.heap.size, 4, none⟩ = some (.int .i64 t) := (uBox hu5 (w4.heap.size) (by simp) (by simp; omega) _).trans (cells_b rfl)
    have a5 : w5.cell? ⟨w4.heap.size, 5, none⟩ = some (.int .i64 x) := (uBox hu5 (w4.heap.size) (by simp) (by simp; omega) _).trans (cells_b rfl)
    have a6 : w5.cell? ⟨w4.heap.size, 6, none⟩ = some (.int .i64 y) := (uBox hu5 (w4.heap.size) (by simp) (by simp; omega) _).trans (cells_b rfl)
    have a7 : w5.cell? ⟨w4.heap.size, 7, none⟩ = some (.int .i64 (1 + wt)) := (uBox hu5 (w4.heap.size) (by simp) (by simp; omega) _).trans (cells_b rfl)
    have af : ∀ o, w5.frozen? ⟨w4.heap.size, o, none⟩ = false := fun o => (uBoxF hu5 (w4.heap.size) (by simp) (by simp; omega) _).trans (frozen_a _ _ _ _)
    have az : w4.heap.size < w5.heap.size := by have := hu5.size; simp at this; omega
    have r0 : w5.cell? ⟨w.heap.size, 0, none⟩ = some (.int .i64 0) := (uBox hu5 (w.heap.size) (by simp; omega) (by simp; omega) _).trans (bCell (bAlloc (Below.refl _ _) _) d0)
    have r1 : w5.cell? ⟨w.heap.size, 1, none⟩ = some (.int .i64 0) := (uBox hu5 (w.heap.size) (by simp; omega) (by simp; omega) _).trans (bCell (bAlloc (Below.refl _ _) _) d1)
    have r2 : w5.cell? ⟨w.heap.size, 2, none⟩ = some (.string ⟨#[]⟩) := (uBox hu5 (w.heap.size) (by simp; omega) (by simp; omega) _).trans (bCell (bAlloc (Below.refl _ _) _) d2)
    have r3 : w5.cell? ⟨w.heap.size, 3, none⟩ = some (.string ⟨#[]⟩) := (uBox hu5 (w.heap.size) (by simp; omega) (by simp; omega) _).trans (bCell (bAlloc (Below.refl _ _) _) d3)
    have r4 : w5.cell? ⟨w.heap.size, 4, none⟩ = some (.int .i64 0) := (uBox hu5 (w.heap.size) (by simp; omega) (by simp; omega) _).trans (bCell (bAlloc (Below.refl _ _) _) d4)
    have r5 : w5.cell? ⟨w.heap.size, 5, none⟩ = some (.int .i64 0) := (uBox hu5 (w.heap.size) (by simp; omega) (by simp; omega) _).trans (bCell (bAlloc (Below.refl _ _) _) d5)
    have r6 : w5.cell? ⟨w.heap.size, 6, none⟩ = some (.int .i64 0) := (uBox hu5 (w.heap.size) (by simp; omega) (by simp; omega) _).trans (bCell (bAlloc (Below.refl _ _) _) d6)
    have r7 : w5.cell? ⟨w.heap.size, 7, none⟩ = some (.int .i64 0) := (uBox hu5 (w.heap.size) (by simp; omega) (by simp; omega) _).trans (bCell (bAlloc (Below.refl _ _) _) d7)
    have rf : ∀ o, w5.frozen? ⟨w.heap.size, o, none⟩ = false := fun o => (uBoxF hu5 (w.heap.size) (by simp; omega) (by simp; omega) _).trans (frozen_al z5 (g4 o))
    have rz : w.heap.size < w5.heap.size := by have := hu5.size; simp at this; omega
    have U5 := Lib.hid (U4.trans hu5)
    have HC5 := Lib.hid hc5
    clear d0 d1 d2 d3 d4 d5 d6 d7 g4 hc5 hu5 HC4 HCw UW z5
    cases heq : (fr.toList == to.toList)
    · have hvl := Lib.hid (vld_two (id := id) (k := 4) (by omega) HID.out (HP.out.vld (by omega)) hwt.out p1 o1 heq)
      clear p1 o1 p2 o2
      go_wp2
      exact bodyPost_ret (v := vFactor id 4 fr to t x y (1 + wt)) (by simp [*, results, Tryd.results47, go_sem]) rfl ⟨4, fr, to, t, x, y, 1 + wt, rfl, hvl.out, (by repeat (first | with_reducible exact HC5.out | ((with_reducible refine Cur.set_ ?_ ?_ _); rotate_left; (first | (simp; omega) | (simp) | omega)) | with_reducible refine Cur.alloc_ ?_ _)), (by repeat (first | with_reducible exact U5.out | ((with_reducible refine Upd.set_new ?_ ?_ _); rotate_left; (first | (simp; omega) | (simp) | omega)) | with_reducible refine Upd.alloc_ ?_ _))⟩
    · have o2' : ((⟨#[112, 52]⟩ : ByteArray).toList == to.toList) = false := by
        rw [Bool.eq_false_iff] at o2 ⊢
        intro h; exact o2 (by rw [beq_iff_eq] at h ⊢; exact h.symm)
      have hvl := Lib.hid (vld_two (id := id) (k := 4) (by omega) HID.out (HP.out.vld (by omega)) hwt.out p4_ok o1 o2')
      clear p1 o1 p2 o2 o2'
      go_wp2
      exact bodyPost_ret (v := vFactor id 4 ⟨#[112, 52]⟩ to t x y (1 + wt)) (by simp [*, results, Tryd.results47, go_sem]) rfl ⟨4, ⟨#[112, 52]⟩, to, t, x, y, 1 + wt, rfl, hvl.out, (by repeat (first | with_reducible exact HC5.out | ((with_reducible refine Cur.set_ ?_ ?_ _); rotate_left; (first | (simp; omega) | (simp) | omega)) | with_reducible refine Cur.alloc_ ?_ _)), (by repeat (first | with_reducible exact U5.out | ((with_reducible refine Upd.set_new ?_ ?_ _); rotate_left; (first | (simp; omega) | (simp) | omega)) | with_reducible refine Upd.alloc_ ?_ _))⟩
end Go.Proofs.YtebcdjpddoaajaaDoor
