/- The draws of places: l01Pick, l26Bits, l26Draw, MakePlaces: valid places, few of them. -/
import Derived.Test.YtgpmmmfnbphgdaaDraw
import Derived.Test.YtgpmmmfnbphgdaaPush
import Derived.Test.YtgpmmmfnbphgdaaFmt
import Derived.Test.YtgpmmmfnbphgdaaPlaces
import Derived.Test.YtgpmmmfnbphgdaaFlat
namespace Go.Proofs.Ytgpmmmfnbphgdaa
open Go.RowKit
set_option linter.unusedVariables false
set_option linter.unusedSimpArgs false
set_option maxHeartbeats 1000000
set_option maxRecDepth 100000
theorem Row.upd_ {w w' : World} {A : Option Addr} {n sz : Nat} {css : List (List Value)} {fs : List Nat} (h : Row w A n sz css) (hu : Upd fs w w') (hd : ∀ g off, A = some ⟨g, off, none⟩ → g ∉ fs) : Row w' A n sz css :=
  ⟨h.1, fun i cs hi => by
    obtain ⟨g, off, rfl, hc⟩ := h.2 i cs hi
    exact ⟨g, off, rfl, fun j v hv => (uBox hu g (cell_lt (hc j v hv)) (hd g off rfl) _).trans (hc j v hv)⟩⟩
theorem l01Pick_c {W w : World} {b : Nat} {A : Option Addr} {n c : Nat} (hy : Bytes W A n) (hn : n ≤ 1048576) (h : Cur W w b A n c) (g m cp : Nat) (l : List Int) (hr : RowI w (some ⟨g, 0, none⟩) m l) (hg : g ≠ b) (h0 : 0 < m) (h1 : m ≤ 256) :
    Calls Try.prog 34 #[.pointer (some ⟨b, 0, none⟩), .slice (some ⟨g, 0, none⟩) m cp] w fun e w' => ∃ x, e = rInt x ∧ x ∈ l ∧ Cur W w' b A n c ∧ Upd [b] w w' := by
  have HC := Lib.hid h
  have hy' := Lib.hid hy
  have hr' := Lib.hid hr
  clear h hy hr
  have hmi0 : (0 : Int) < (m : Int) := by omega
  have hmi1 : (m : Int) ≤ 256 := by omega
  go_enter Try.func34, Try.ntmps34
  go_wp2_with fail
  refine Calls.mono (l01Below_c hy'.out hn HC.out (m : Int) (by omega) (by omega)) ?_
  rintro e w1 ⟨x, rfl, hx0, hx1, hc1, hu1⟩
  obtain ⟨k, rfl⟩ := Int.eq_ofNat_of_zero_le hx0
  have hk : k < m := by omega
  obtain ⟨v, g', off', hv, hA, hcell⟩ := RowI.at_ (hr'.out.upd_ hu1 (fun g2 off2 e => by simp only [Option.some.injEq, Addr.mk.injEq] at e; simp; omega)) hk
  simp only [Option.some.injEq, Addr.mk.injEq, and_true] at hA
  obtain ⟨rfl, rfl⟩ := hA
  rw [Nat.zero_add] at hcell
  go_wp2
  go_ret
  exact ⟨v, rfl, List.mem_of_getElem? hv.out, hc1, hu1⟩
theorem pick_row (w : World) (a0 a1 a2 a3 a4 : Int) : RowI (w.alloc (.cells #[.int .i64 a0, .int .i64 a1, .int .i64 a2, .int .i64 a3, .int .i64 a4] 3)) (some ⟨w.heap.size, 0, none⟩) 5 [a0, a1, a2, a3, a4] := by
  have e : (w.alloc (.cells #[.int .i64 a0, .int .i64 a1, .int .i64 a2, .int .i64 a3, .int .i64 a4] 3)).heap[w.heap.size]? = some (.cells #[.int .i64 a0, .int .i64 a1, .int .i64 a2, .int .i64 a3, .int .i64 a4] 3) := heap_alloc_new w _
  refine ⟨rfl, fun i cs hi => ⟨w.heap.size, 0, rfl, fun j v hv => ?_⟩⟩
  unfold World.cell?
  rw [e]
  match i with
  | 0 | 1 | 2 | 3 | 4 =>
    simp [intCells] at hi
    subst hi
    match j with
    | 0 => simp at hv; subst hv; rfl
    | j + 1 => simp at hv
  | i + 5 => simp at hi
theorem flip_range {z q : Int} (h0 : 0 ≤ z) (h1 : z ≤ 1073741823) (h2 : 0 ≤ q) (h3 : q < 30) : 0 ≤ bits .xor .i64 z (wrap64 (2 ^ q.toNat)) ∧ bits .xor .i64 z (wrap64 (2 ^ q.toNat)) ≤ 1073741823 := by
  obtain ⟨m, rfl⟩ := Int.eq_ofNat_of_zero_le h2
  have hm : m ≤ 29 := by omega
  have hp : 2 ^ m ≤ 2 ^ 29 := Nat.pow_le_pow_right (by decide) hm
  have e : ((2 : Int) ^ m) = ((2 ^ m : Nat) : Int) := (Int.natCast_pow 2 m).symm
  have hp' : (2 : Nat) ^ m ≤ 536870912 := hp
  have hq : (2 : Int) ^ m ≤ 536870912 := by rw [e]; exact Int.ofNat_le.2 hp'
  have hq' : (0 : Int) ≤ (2 : Int) ^ m := by rw [e]; exact Int.natCast_nonneg _
  have hw : wrap64 ((2 : Int) ^ ((m : Int)).toNat) = ((2 ^ m : Nat) : Int) := by
    rw [Int.toNat_natCast, e]
    rw [← e]
    exact IntWalk.wrap64_in _ ⟨by omega, by omega⟩
  rw [e] at hq hq'
  rw [hw]
  obtain ⟨X, hX, hle, _⟩ := xor_bits (a := z) (b := ((2 ^ m : Nat) : Int)) h0 h1 (by omega) (by omega)
  rw [hX]
  omega
/-- the name of place k -/
def pnm (k : Nat) : ByteArray := ⟨#[112]⟩ ++ itoaB (k : Int)
theorem pnm_eq {k : Nat} (h : k < 10) : pnm k = ⟨#[112, UInt8.ofNat (48 + k)]⟩ := by
  apply bext
  unfold pnm itoaB
  rw [Lib.itoa_nonneg, Lib.decDigits_one h, ByteArray.data_append, Array.toList_append]
  rfl
/-- what the draw makes -/
def PDraw (l : List Place) : Prop := l.length ≤ 5 ∧ ∀ (k : Nat) (p : Place), l[k]? = some p → p.name = pnm k ∧ 0 ≤ p.bits ∧ p.bits ≤ 1073741823
theorem nm_ok : ∀ k : Fin 10, isPoseNm ⟨#[112, UInt8.ofNat (48 + k.val)]⟩ = true := by decide +kernel
theorem nm_new : ∀ k : Fin 10, hasStr ((List.range k.val).map fun j => (⟨#[112, UInt8.ofNat (48 + j)]⟩ : ByteArray)) ⟨#[112, UInt8.ofNat (48 + k.val)]⟩ = false := by decide +kernel
theorem plL_draw : ∀ (l : List Place) (s : Nat), (∀ (k : Nat) (p : Place), l[k]? = some p → p.name = pnm (s + k) ∧ 0 ≤ p.bits ∧ p.bits ≤ 1073741823) → s + l.length ≤ 10 → plL l ((List.range s).map fun j => (⟨#[112, UInt8.ofNat (48 + j)]⟩ : ByteArray)) = true
  | [], _, _, _ => rfl
  | p :: l, s, h, hs => by
    simp only [List.length_cons] at hs
    obtain ⟨h1, h2, h3⟩ := h 0 p rfl
    rw [Nat.add_zero, pnm_eq (by omega)] at h1
    have ih := plL_draw l (s + 1) (fun k q hq => by have := h (k + 1) q (by simpa using hq); rwa [show s + (k + 1) = s + 1 + k by omega] at this) (by omega)
    rw [List.range_succ, List.map_append] at ih
    have e1 := nm_ok ⟨s, by omega⟩
    have e2 := nm_new ⟨s, by omega⟩
    simp only at e1 e2
    have e3 : inR p.bits 0 1073741823 = true := inR_iff.2 ⟨h2, h3⟩
    unfold plL vldPlace
    rw [h1, e1, e2, e3]
    simpa using ih
theorem PDraw.isPL {l : List Place} (h : PDraw l) : isPL l = true := by
  have h1 := plL_draw l 0 (fun k p hk => by have := h.2 k p hk; simpa using this) (by have := h.1; omega)
  have h2 := h.1
  unfold Go.Proofs.Ytgpmmmfnbphgdaa.isPL
  simp only [Bool.and_eq_true, decide_eq_true_eq]
  exact ⟨by omega, h1⟩
theorem PDraw.push {l : List Place} {z : Int} (h : PDraw l) (hl : l.length ≤ 4) (h0 : 0 ≤ z) (h1 : z ≤ 1073741823) : PDraw (l ++ [⟨pnm l.length, z⟩]) := by
  refine ⟨by simp; omega, fun k p hk => ?_⟩
  by_cases hlt : k < l.length
  · rw [List.getElem?_append_left hlt] at hk
    exact h.2 k p hk
  · rw [List.getElem?_append_right (by omega)] at hk
    have : k - l.length = 0 := by
      rcases Nat.eq_zero_or_pos (k - l.length) with h9 | h9
      · exact h9
      · rw [List.getElem?_eq_none (by simp; omega)] at hk; cases hk
    rw [this] at hk
    simp only [List.getElem?_cons_zero, Option.some.injEq] at hk
    subst hk
    have e : k = l.length := by omega
    subst e
    exact ⟨rfl, h0, h1⟩
theorem Upd.grown_hi2 {fs : List Nat} {a b c : World} {row : Option Nat} (h : Upd fs a b) (k : b.grownBy c row) (hr : ∀ q, row = some q → a.heap.size ≤ q) : Upd fs a c :=
  ⟨k.os.trans h.os, k.tape.trans h.tape, k.output.trans h.output, Nat.le_trans h.size k.size, fun i hi hn => (k.block i (Nat.lt_of_lt_of_le hi h.size) (fun e => by have := hr i e.symm; omega)).trans (h.block i hi hn)⟩
theorem Cur.keep {W w w' : World} {b : Nat} {A : Option Addr} {n c : Nat} (h : Cur W w b A n c) (hB : Below W.heap.size W w') (hk : w'.heap[b]? = w.heap[b]?) : Cur W w' b A n c := by
  have e1 : ∀ o, w'.cell? ⟨b, o, none⟩ = w.cell? ⟨b, o, none⟩ := fun o => World.cell?_of_block (a := ⟨b, o, none⟩) hk
  have e2 : ∀ o, w'.frozen? ⟨b, o, none⟩ = w.frozen? ⟨b, o, none⟩ := fun o => World.frozen?_of_block (a := ⟨b, o, none⟩) hk
  obtain ⟨i, hi, h1⟩ := h.c1
  obtain ⟨k, h2⟩ := h.c2
  exact ⟨hB, h.hb, (e1 0).trans h.c0, ⟨i, hi, (e1 1).trans h1⟩, ⟨k, (e1 2).trans h2⟩, fun o => (e2 o).trans (h.fz o)⟩
end Go.Proofs.Ytgpmmmfnbphgdaa
