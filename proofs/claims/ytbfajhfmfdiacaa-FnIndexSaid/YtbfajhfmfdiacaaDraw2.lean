/- The draws of places: l01Pick, l26Bits, l26Draw, MakePlaces: valid places, few of them. -/
import Derived.Test.YtbfajhfmfdiacaaDraw
import Derived.Test.YtbfajhfmfdiacaaPush
import Derived.Test.YtbfajhfmfdiacaaFmt
import Derived.Test.YtbfajhfmfdiacaaPlaces
import Derived.Test.YtbfajhfmfdiacaaFlat
namespace Go.Proofs.Ytbfajhfmfdiacaa
open Go.RowKit
set_option linter.unusedVariables false
set_option linter.unusedSimpArgs false
set_option maxHeartbeats 1000000
set_option maxRecDepth 100000
theorem Row.upd_ {w w' : World} {A : Option Addr} {n sz : Nat} {css : List (List Value)} {fs : List Nat} (h : Row w A n sz css) (hu : Upd fs w w') (hd : ∀ g off, A = some ⟨g, off, none⟩ → g ∉ fs) : Row w' A n sz css :=
  ⟨h.1, fun i cs hi => by
    obtain ⟨g, off, rfl, hc⟩ := h.2 i cs hi
    exact ⟨g, off, rfl, fun j v hv => (uBox hu g (cell_lt (hc j v hv)) (hd g off rfl) _).trans (hc j v hv)⟩⟩
theorem l01Pick_c {W w : World} {b : Nat} {A : Option Addr} {n c : Nat} (hy : Bytes W A n) (hn : n ≤ 1048576) (h : Cur W w b A n c) (g m cp : Nat) (l : List Int) (hr : RowI w (some ⟨g, 0, none⟩) m l) (hg : g ≠ b) (h0 : 0 < m) (h1 : m ≤ 256) :
    Calls Try.prog 53 #[.pointer (some ⟨b, 0, none⟩), .slice (some ⟨g, 0, none⟩) m cp] w fun e w' => ∃ x, e = rInt x ∧ x ∈ l ∧ Cur W w' b A n c ∧ Upd [b] w w' := by
  have HC := Lib.hid h
  have hy' := Lib.hid hy
  have hr' := Lib.hid hr
  clear h hy hr
  have hmi0 : (0 : Int) < (m : Int) := by omega
  have hmi1 : (m : Int) ≤ 256 := by omega
  go_enter Try.func53, Try.ntmps53
  go_wp2_with fail
  refine Calls.mono (l01Below_c hy'.out hn HC.out (m : Int) (by omega) (by omega)) ?_
  rintro e w1 ⟨x, rfl, hx0, hx1, hc1, hu1⟩
  obtain ⟨k, rfl⟩ := Int.eq_ofNat_of_zero_le hx0
  have hk : k < m := by omega
  obtain ⟨v, g', off', hv, hA, hcell⟩ := RowI.at_ (hr'.out.upd_ hu1 (fun g2 off2 e => by simp only [Option.some.injEq, Addr.mk.injEq] at e; simp; omega)) hk
  simp only [Option.some.injEq, Addr.mk.injEq, and_true] at hA
  obtain ⟨rfl, rfl⟩ := hA
  rw [Nat.zero_add] at hcell
  go_wp2
  go_ret
  exact ⟨v, rfl, List.mem_of_getElem? hv.out, hc1, hu1⟩
theorem pick_row (w : World) (a0 a1 a2 a3 a4 : Int) : RowI (w.alloc (.cells #[.int .i64 a0, .int .i64 a1, .int .i64 a2, .int .i64 a3, .int .i64 a4] 3)) (some ⟨w.heap.size, 0, none⟩) 5 [a0, a1, a2, a3, a4] := by
  have e : (w.alloc (.cells #[.int .i64 a0, .int .i64 a1, .int .i64 a2, .int .i64 a3, .int .i64 a4] 3)).heap[w.heap.size]? = some (.cells #[.int .i64 a0, .int .i64 a1, .int .i64 a2, .int .i64 a3, .int .i64 a4] 3) := heap_alloc_new w _
  refine ⟨rfl, fun i cs hi => ⟨w.heap.size, 0, rfl, fun j v hv => ?_⟩⟩
  unfold World.cell?
  rw [e]
  match i with
  | 0 | 1 | 2 | 3 | 4 =>
    simp [intCells] at hi
    subst hi
    match j with
    | 0 => simp at hv; subst hv; rfl
    | j + 1 => simp at hv
  | i + 5 => simp at hi
theorem flip_range {z q : Int} (h0 : 0 ≤ z) (h1 : z ≤ 1073741823) (h2 : 0 ≤ q) (h3 : q < 30) : 0 ≤ bits .xor .i64 z (wrap64 (2 ^ q.toNat)) ∧ bits .xor .i64 z (wrap64 (2 ^ q.toNat)) ≤ 1073741823 := by
  obtain ⟨m, rfl⟩ := Int.eq_ofNat_of_zero_le h2
  have hm : m ≤ 29 := by omega
  have hp : 2 ^ m ≤ 2 ^ 29 := Nat.pow_le_pow_right (by decide) hm
  have e : ((2 : Int) ^ m) = ((2 ^ m : Nat) : Int) := (Int.natCast_pow 2 m).symm
  have hp' : (2 : Nat) ^ m ≤ 536870912 := hp
  have hq : (2 : Int) ^ m ≤ 536870912 := by rw [e]; exact Int.ofNat_le.2 hp'
  have hq' : (0 : Int) ≤ (2 : Int) ^ m := by rw [e]; exact Int.natCast_nonneg _
  have hw : wrap64 ((2 : Int) ^ ((m : Int)).toNat) = ((2 ^ m : Nat) : Int) := by
    rw [Int.toNat_natCast, e]
    rw [← e]
    exact IntWalk.wrap64_in _ ⟨by omega, by omega⟩
  rw [e] at hq hq'
  rw [hw]
  obtain ⟨X, hX, hle, _⟩ := xor_bits (a := z) (b := ((2 ^ m : Nat) : Int)) h0 h1 (by omega) (by omega)
  rw [hX]
  omega
theorem l26Bits_c {W w : World} {b : Nat} {A : Option Addr} {n c : Nat} (hy : Bytes W A n) (hn : n ≤ 1048576) (h : Cur W w b A n c) :
    Calls Try.prog 30 #[.pointer (some ⟨b, 0, none⟩)] w fun e w' => ∃ x, e = rInt x ∧ 0 ≤ x ∧ x ≤ 1073741823 ∧ Cur W w' b A n c ∧ Upd [b] w w' := by
  have hlt := h.lt
  have HC := Lib.hid (h.below (bAlloc (Below.refl _ _) (.cells #[.int .i64 0, .int .i64 1023, .int .i64 1048653, .int .i64 987654321, .int .i64 1073741823] 3)))
  have hy' := Lib.hid hy
  have hrow := Lib.hid (pick_row w 0 1023 1048653 987654321 1073741823)
  clear h hy
  go_enter Try.func30, Try.ntmps30
  go_wp2_with fail
  refine Calls.mono (l01Pick_c hy'.out hn HC.out _ 5 5 _ hrow.out (by omega) (by omega) (by omega)) ?_
  rintro e w1 ⟨x, rfl, hx, hc1, hu1⟩
  have hxr : 0 ≤ x ∧ x ≤ 1073741823 := by
    simp at hx; omega
  have U1 : Upd [b] w w1 := (Upd.of_below (bAlloc (Below.refl _ _) _)).trans hu1
  have HC1 := Lib.hid hc1
  clear hc1 hx hrow HC
  go_wp2_with fail
  refine Calls.mono (l01Below_c hy'.out hn HC1.out 4 (by omega) (by omega)) ?_
  rintro e w2 ⟨y, rfl, hy0, hy1, hc2, hu2⟩
  have U2 := U1.trans hu2
  clear HC1 hu1 hu2 U1
  go_wp2_with fail
  go_loopw [3, 4] (fun r i wr => ∃ (k : Nat) (z : Int), k ≤ 4 ∧ i = .int .i64 (k : Int) ∧ r = .int .i64 z ∧ 0 ≤ z ∧ z ≤ 1073741823 ∧ Cur W wr b A n c ∧ Upd [b] w wr) (fun _ i _ => (intOf i).toNat)
  case atStart => exact ⟨y.toNat, x, by omega, by simp; omega, rfl, hxr.1, hxr.2, hc2, U2⟩
  case round =>
    obtain ⟨k, z, hk, rfl, rfl, hz0, hz1, hc, hu⟩ := hrel
    have HC2 := Lib.hid hc
    clear hc hc2 hy0 hy1 hxr U2
    by_cases hlt : 0 < k
    · have hi1 : (0 : Int) < (k : Int) := by omega
      go_wp2_with fail
      refine Calls.mono (l01Below_c hy'.out hn HC2.out 30 (by omega) (by omega)) ?_
      rintro e w3 ⟨q, rfl, hq0, hq1, hc3, hu3⟩
      go_wp2_with fail
      obtain ⟨hx0, hx1⟩ := flip_range hz0 hz1 hq0 hq1
      exact ⟨⟨k - 1, _, by omega, by simp; omega, rfl, hx0, hx1, hc3, hu.trans hu3⟩, by simp only [intOf]; omega⟩
    · go_wp2
      go_ret
      exact ⟨z, rfl, hz0, hz1, HC2.out, hu⟩
/-- the name of place k -/
def pnm (k : Nat) : ByteArray := ⟨#[112]⟩ ++ itoaB (k : Int)
theorem pnm_eq {k : Nat} (h : k < 10) : pnm k = ⟨#[112, UInt8.ofNat (48 + k)]⟩ := by
  apply bext
  unfold pnm itoaB
  rw [Lib.itoa_nonneg, Lib.decDigits_one h, ByteArray.data_append, Array.toList_append]
  rfl
/-- what the draw makes -/
def PDraw (l : List Place) : Prop := l.length ≤ 5 ∧ ∀ (k : Nat) (p : Place), l[k]? = some p → p.name = pnm k ∧ 0 ≤ p.bits ∧ p.bits ≤ 1073741823
theorem nm_ok : ∀ k : Fin 10, isPoseNm ⟨#[112, UInt8.ofNat (48 + k.val)]⟩ = true := by decide +kernel
theorem nm_new : ∀ k : Fin 10, hasStr ((List.range k.val).map fun j => (⟨#[112, UInt8.ofNat (48 + j)]⟩ : ByteArray)) ⟨#[112, UInt8.ofNat (48 + k.val)]⟩ = false := by decide +kernel
theorem plL_draw : ∀ (l : List Place) (s : Nat), (∀ (k : Nat) (p : Place), l[k]? = some p → p.name = pnm (s + k) ∧ 0 ≤ p.bits ∧ p.bits ≤ 1073741823) → s + l.length ≤ 10 → plL l ((List.range s).map fun j => (⟨#[112, UInt8.ofNat (48 + j)]⟩ : ByteArray)) = true
  | [], _, _, _ => rfl
  | p :: l, s, h, hs => by
    simp only [List.length_cons] at hs
    obtain ⟨h1, h2, h3⟩ := h 0 p rfl
    rw [Nat.add_zero, pnm_eq (by omega)] at h1
    have ih := plL_draw l (s + 1) (fun k q hq => by have := h (k + 1) q (by simpa using hq); rwa [show s + (k + 1) = s + 1 + k by omega] at this) (by omega)
    rw [List.range_succ, List.map_append] at ih
    have e1 := nm_ok ⟨s, by omega⟩
    have e2 := nm_new ⟨s, by omega⟩
    simp only at e1 e2
    have e3 : inR p.bits 0 1073741823 = true := inR_iff.2 ⟨h2, h3⟩
    unfold plL vldPlace
    rw [h1, e1, e2, e3]
    simpa using ih
theorem PDraw.isPL {l : List Place} (h : PDraw l) : isPL l = true := by
  have h1 := plL_draw l 0 (fun k p hk => by have := h.2 k p hk; simpa using this) (by have := h.1; omega)
  have h2 := h.1
  unfold Go.Proofs.Ytbfajhfmfdiacaa.isPL
  simp only [Bool.and_eq_true, decide_eq_true_eq]
  exact ⟨by omega, h1⟩
theorem PDraw.push {l : List Place} {z : Int} (h : PDraw l) (hl : l.length ≤ 4) (h0 : 0 ≤ z) (h1 : z ≤ 1073741823) : PDraw (l ++ [⟨pnm l.length, z⟩]) := by
  refine ⟨by simp; omega, fun k p hk => ?_⟩
  by_cases hlt : k < l.length
  · rw [List.getElem?_append_left hlt] at hk
    exact h.2 k p hk
  · rw [List.getElem?_append_right (by omega)] at hk
    have : k - l.length = 0 := by
      rcases Nat.eq_zero_or_pos (k - l.length) with h9 | h9
      · exact h9
      · rw [List.getElem?_eq_none (by simp; omega)] at hk; cases hk
    rw [this] at hk
    simp only [List.getElem?_cons_zero, Option.some.injEq] at hk
    subst hk
    have e : k = l.length := by omega
    subst e
    exact ⟨rfl, h0, h1⟩
theorem Upd.grown_hi2 {fs : List Nat} {a b c : World} {row : Option Nat} (h : Upd fs a b) (k : b.grownBy c row) (hr : ∀ q, row = some q → a.heap.size ≤ q) : Upd fs a c :=
  ⟨k.os.trans h.os, k.tape.trans h.tape, k.output.trans h.output, Nat.le_trans h.size k.size, fun i hi hn => (k.block i (Nat.lt_of_lt_of_le hi h.size) (fun e => by have := hr i e.symm; omega)).trans (h.block i hi hn)⟩
theorem Cur.keep {W w w' : World} {b : Nat} {A : Option Addr} {n c : Nat} (h : Cur W w b A n c) (hB : Below W.heap.size W w') (hk : w'.heap[b]? = w.heap[b]?) : Cur W w' b A n c := by
  have e1 : ∀ o, w'.cell? ⟨b, o, none⟩ = w.cell? ⟨b, o, none⟩ := fun o => World.cell?_of_block (a := ⟨b, o, none⟩) hk
  have e2 : ∀ o, w'.frozen? ⟨b, o, none⟩ = w.frozen? ⟨b, o, none⟩ := fun o => World.frozen?_of_block (a := ⟨b, o, none⟩) hk
  obtain ⟨i, hi, h1⟩ := h.c1
  obtain ⟨k, h2⟩ := h.c2
  exact ⟨hB, h.hb, (e1 0).trans h.c0, ⟨i, hi, (e1 1).trans h1⟩, ⟨k, (e1 2).trans h2⟩, fun o => (e2 o).trans (h.fz o)⟩
theorem l26Draw_c {W w : World} {b : Nat} {A : Option Addr} {n c : Nat} (hy : Bytes W A n) (hn : n ≤ 1048576) (h : Cur W w b A n c) :
    Calls Try.prog 29 #[.pointer (some ⟨b, 0, none⟩)] w fun e w' => ∃ (v : Sv) (l : List Place), e = .returned (.slice v.A v.n v.c) ∧ PDraw l ∧ Own w' w.heap.size 71 2 v.A v.n v.c (l.map Place.cells) ∧ Cur W w' b A n c ∧ Upd [b] w w' := by
  obtain ⟨i0, hi, hz0, hz1, hz2⟩ := info_parts info_Place
  have hlt := h.lt
  have HW := Lib.hid h.hB
  have hbW := h.hb
  have HC := Lib.hid (h.below (bAlloc (Below.refl _ _) (.cells #[] 71)))
  have hy' := Lib.hid hy
  clear h hy
  go_enter Try.func29, Try.ntmps29
  go_wp2_with fail
  refine Calls.mono (l01Below_c hy'.out hn HC.out 6 (by omega) (by omega)) ?_
  rintro e w1 ⟨y, rfl, hy0, hy1, hc1, hu1⟩
  have U1 : Upd [b] w w1 := (Upd.of_below (bAlloc (Below.refl _ _) _)).trans hu1
  have ho1 : Own w1 w.heap.size 71 2 (some ⟨w.heap.size, 0, none⟩) 0 0 [] := (Own.made0 w _ 2 (Nat.le_refl _)).upd hu1 (fun k hk hm => by simp [obl, ob] at hk hm; omega)
  clear HC
  go_wp2_with fail
  go_loopw [3, 4] (fun r i wr => ∃ (k : Nat) (v : Sv) (l : List Place), l.length + k ≤ 5 ∧ i = .int .i64 (k : Int) ∧ r = .slice v.A v.n v.c ∧ Hid (l.length = v.n) ∧ Hid (PDraw l) ∧ Own wr w.heap.size 71 2 v.A v.n v.c (l.map Place.cells) ∧ Cur W wr b A n c ∧ Upd [b] w wr) (fun _ i _ => (intOf i).toNat)
  case atStart => exact ⟨y.toNat, ⟨some ⟨w.heap.size, 0, none⟩, 0, 0⟩, [], by simp; omega, by simp; omega, rfl, rfl, ⟨by simp, fun k p hk => by simp at hk⟩, ho1, hc1, U1⟩
  case round =>
    obtain ⟨k, v, l, hk, rfl, rfl, hl, hp, ho, hc, hu⟩ := hrel
    have HC := Lib.hid hc
    obtain ⟨VA, vn, vc⟩ := v
    dsimp only at hl ho
    have hvn : l.length = vn := hl
    subst hvn
    clear hc hc1 ho1 U1 hu1
    by_cases hlt2 : 0 < k
    · have hi1 : (0 : Int) < (k : Int) := by omega
      have hzs := itoaB_size (n := (l.length : Int)) (by omega) (by omega)
      have hcat := fun W => catOk (a := ⟨#[112]⟩) (b := itoaB (l.length : Int)) (by show 1 + _ ≤ _; omega) W
      rw [show (⟨#[112]⟩ ++ itoaB (l.length : Int)) = pnm l.length from rfl] at hcat
      generalize hN : pnm l.length = N at hcat
      go_wp2_with fail
      refine Calls.mono (spec_FormatInt_c (l.length : Int) _ (by omega) (by omega)) ?_
      rintro e w2 ⟨rfl, hb2⟩
      have HC2 := Lib.hid (HC.out.below hb2)
      have ho2 := ho.below hb2
      have u2 := hu.then_below hb2
      clear HC ho hzs
      generalize itoaB (l.length : Int) = M at *
      go_wp2_with fail
      refine Calls.mono (l26Bits_c hy'.out hn HC2.out) ?_
      rintro e w3 ⟨z, rfl, hz0', hz1', hc3, hu3⟩
      have ho3 := ho2.upd hu3 (fun q hq hm => by have h1 := (ho2.lt q (mem_obl.1 hq)).1; simp at hm; omega)
      have u3 := u2.trans hu3
      have HC3 := Lib.hid hc3
      clear ho2 hc3 HC2 u2 hu3
      go_wp2_with (at_builtin; refine wpList_append rfl (.tmp 12) (.tmp 20) 36 rfl w.heap.size 71 2 24 i0 _ Try.underlying36 hi hz0 hz1 hz2 rfl (by omega) VA l.length vc _ rfl (ho3.alloc_ _) _ 1 1 [Place.cells ⟨N, z⟩] rfl (Row.new1' _ _ _ 2 _ (by simp)) (by simp [Place.cells]) (by simp [Place.cells, Value.oneCell']) (by simp only [maxLen]; omega) (by omega) (by have h9 := u3.size; simp; omega) ?_; intro A5 c5 w5 ho5 hg5 hat5)
      have hgr := hg5
      have hne : ∀ q, ob VA = some q → w.heap.size ≤ q := fun q hq => (ho3.lt q hq).1
      have hu5 : Upd [b] w w5 := Upd.grown_hi2 (u3.alloc_ _) hg5 hne
      have hc5 : Cur W w5 b A n c := HC3.out.below (bAlloc (Below.refl _ _) (.cells #[.string N, .int .i64 z] 71)) |>.keep (bUpd1 (w := w) (HW.out) hu5 (by omega)) (hg5.block b (by have := HC3.out.lt; simp; omega) (fun e => by have := hne b e.symm; omega))
      refine ⟨⟨k - 1, ⟨A5, l.length + 1, c5⟩, l ++ [⟨N, z⟩], by simp; omega, by simp; omega, rfl, by simp [Hid], ?_, ?_, hc5, hu5⟩, by simp only [intOf]; omega⟩
      · rw [← hN]
        exact hp.out.push (by omega) hz0' hz1'
      · rw [List.map_append]
        exact ho5
    · go_wp2
      refine bodyPost_ret (v := .slice VA l.length vc) (by simp [*, results, Try.results29, go_sem]) rfl ⟨⟨VA, l.length, vc⟩, rfl, l, hp.out, ho, HC.out, hu⟩
theorem MakePlaces_c {W w : World} {A : Option Addr} {n c : Nat} (hB : Below W.heap.size W w) (hy : Bytes W A n) (hn : n ≤ 1048576) :
    Calls Try.prog 12 #[.slice A n c] w fun e w' => ∃ (v : Sv) (l : List Place) (x : Int), e = .returned (.tuple #[.slice v.A v.n v.c, .int .i64 x]) ∧ PDraw l ∧ 0 ≤ x ∧ x ≤ 1073741823 ∧ OwP w' v l ∧ Fresh w.heap.size w' (fpP v) ∧ Below w.heap.size w w' := by
  have HB := Lib.hid hB
  have hy' := Lib.hid hy
  clear hB hy
  go_enter Try.func12, Try.ntmps12
  go_wp2_with fail
  refine Calls.mono (l01New_c (c := c) HB.out hy'.out hn) ?_
  rintro e w1 ⟨b, rfl, hb, hc1, hb1⟩
  have HC := Lib.hid hc1
  clear hc1
  go_wp2_with fail
  refine Calls.mono (l26Draw_c hy'.out hn HC.out) ?_
  rintro e w2 ⟨v, l, rfl, hp, ho, hc2, hu2⟩
  have HC2 := Lib.hid hc2
  have hz1 := hb1.size
  have hbw := HC.out.lt
  have hp' := Lib.hid hp
  have hB2 := bUpd1 (W := w) hb1 hu2 hb
  clear hc2 HC hp
  go_wp2_with fail
  refine Calls.mono (l26Bits_c hy'.out hn HC2.out) ?_
  rintro e w3 ⟨x, rfl, hx0, hx1, hc3, hu3⟩
  have ho3 := ho.upd hu3 (fun q hq hm => by have h1 := (ho.lt q (mem_obl.1 hq)).1; simp at hm; omega)
  have hf3 : Fresh w.heap.size w3 (fpP v) := Fresh.rebase (Fresh.obl_ ho3) hz1
  have hfin : ∃ (v' : Sv) (l' : List Place) (x' : Int), Ending.returned (.tuple #[.slice v.A v.n v.c, .int .i64 x]) = .returned (.tuple #[.slice v'.A v'.n v'.c, .int .i64 x']) ∧ PDraw l' ∧ 0 ≤ x' ∧ x' ≤ 1073741823 ∧ OwP w3 v' l' ∧ Fresh w.heap.size w3 (fpP v') ∧ Below w.heap.size w w3 :=
    ⟨v, l, x, rfl, hp'.out, hx0, hx1, ho3.zero, hf3, bUpd1 (W := w) hB2 hu3 hb⟩
  have HF := Lib.hid hfin
  clear hfin hf3 ho3 ho hc3 hu3 hu2 hb1 hp' HC2 hB2
  go_wp2
  go_ret2
  first | exact HF.out | simpa using HF.out
end Go.Proofs.Ytbfajhfmfdiacaa
