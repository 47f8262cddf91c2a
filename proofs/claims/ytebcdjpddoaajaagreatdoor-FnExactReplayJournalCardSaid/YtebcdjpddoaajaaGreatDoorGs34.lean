/- Texts of this proof, one behind the other: Rem, RemS, Add2. -/
import Derived.Test.YtebcdjpddoaajaaGreatDoorGs27
/- RemoveFactor of the program. -/
namespace Go.Proofs.YtebcdjpddoaajaaGreatDoor
open Go.RowKit
set_option linter.unusedVariables false
set_option linter.unusedSimpArgs false
set_option maxHeartbeats 4000000
set_option maxRecDepth 100000

theorem asc_gt : ∀ (l : List Factor) (p : Int), ascL l (some p) = true → ∀ g ∈ l, p < g.id
  | [], p, _, g, hg => by simp at hg
  | a :: l, p, h, g, hg => by
    simp only [ascL, Bool.and_eq_true, decide_eq_true_eq] at h
    rcases List.mem_cons.1 hg with rfl | hg
    · exact h.2.1
    · have := asc_gt l a.id h.2.2 g hg; omega
theorem asc_tail {a : Factor} {l : List Factor} {p : Option Int} (h : ascL (a :: l) p = true) : ascL l (some a.id) = true := by
  simp only [ascL, Bool.and_eq_true] at h
  exact h.2.2
theorem rem_take : ∀ (l : List Factor) (p : Option Int) (k : Nat) (f : Factor), ascL l p = true → l[k]? = some f → l.filter (fun g => g.id != f.id) = l.take k ++ l.drop (k + 1)
  | [], p, k, f, _, hf => by simp at hf
  | a :: l, p, 0, f, h, hf => by
    simp only [List.getElem?_cons_zero, Option.some.injEq] at hf
    subst hf
    have hg := asc_gt l a.id (asc_tail h)
    rw [List.filter_cons_of_neg (by simp)]
    simp only [List.take_zero, List.nil_append, List.drop_succ_cons, List.drop_zero]
    rw [List.filter_eq_self]
    intro g hm
    have := hg g hm
    simp; omega
  | a :: l, p, k + 1, f, h, hf => by
    simp only [List.getElem?_cons_succ] at hf
    have hg := asc_gt l a.id (asc_tail h) f (List.mem_of_getElem? hf)
    have ih := rem_take l _ k f (asc_tail h) hf
    rw [List.filter_cons_of_pos (by simp; omega), ih]
    rfl
theorem fid_at : ∀ (l : List Factor) (id j : Int), 0 ≤ j → findId l id j = -1 ∨ ∃ (k : Nat) (f : Factor), findId l id j = j + (k : Int) ∧ l[k]? = some f ∧ f.id = id
  | [], id, j, _ => .inl rfl
  | a :: l, id, j, hj => by
    rw [findId]
    by_cases h : a.id = id
    · rw [if_pos (by simpa using h)]
      exact .inr ⟨0, a, by simp, rfl, h⟩
    · rw [if_neg (by simpa using h)]
      rcases fid_at l id (j + 1) (by omega) with h1 | ⟨k, f, h1, h2, h3⟩
      · exact .inl h1
      · exact .inr ⟨k + 1, f, by rw [h1]; push_cast; omega, by simpa using h2, h3⟩
theorem remF_no {l : List Factor} {id : Int} (h : (isFL l && hasId l id) = false) : removeF l id = (l, false) := by unfold removeF; rw [h]; rfl
theorem remF_yes {l : List Factor} {k : Nat} {f : Factor} (h : isFL l = true) (hk : l[k]? = some f) : removeF l f.id = (l.take k ++ l.drop (k + 1), true) := by
  have hh : hasId l f.id = true := by
    unfold hasId; rw [List.any_eq_true]; exact ⟨f, List.mem_of_getElem? hk, by simp⟩
  have ha : ascL l none = true := by
    unfold isFL at h; simp only [Bool.and_eq_true] at h; exact h.2.1
  unfold removeF
  rw [h, hh, if_pos (by rfl), rem_take l none k f ha hk]
theorem impl_RemoveFactor_k (v : Sv) (l : List Factor) (id : Int) (w : World) (hm : fewF l) (hs : smallFs l) (hsl : SlOk v) (hr : RdF w v l) :
    Calls Tryz.prog 25 #[.slice v.A v.n v.c, .int .i64 id] w fun e w' => ∃ v' : Sv, e = .returned (.tuple #[.slice v'.A v'.n v'.c, .bool (removeF l id).2]) ∧ FPost w v' (removeF l id).1 w' := by
  obtain ⟨i0, hii, hq0, hq1, hq2⟩ := info_parts info_Factor
  have hl := hr.len
  have hm1 : v.n ≤ 1048576 := by have := hl.out; unfold fewF at hm; omega
  obtain ⟨A, n, c⟩ := v
  dsimp only [SlOk] at hsl hm1 hl ⊢
  obtain ⟨b, hb⟩ : ∃ b, b = isFL l := ⟨_, rfl⟩
  have HB := Lib.hid hb
  clear hb
  go_enter Tryz.func25, Tryz.ntmps25
  go_wp2_with fail
  refine Calls.mono (findFactor_c A n c l id _ hm1 hr) ?_
  rintro e w1 ⟨rfl, hk1⟩
  go_wp2_with fail
  refine Calls.mono (impl_IsFactorList_c A n c l _ hm1 (Row.below hr hk1) hs) ?_
  rintro e w2 ⟨rfl, hk2⟩
  rw [← HB.out]
  have H2 := bTrans hk1 hk2
  have hneg := findId_neg l id 0 (by omega)
  rcases fid_at l id 0 (by omega) with h1 | ⟨k, f, h1, h2, h3⟩
  · have E := Lib.hid (remF_no (l := l) (id := id) (by rw [h1] at hneg; simp at hneg; rw [hneg, Bool.and_false]))
    rw [h1]
    clear h1 hneg
    cases b
    all_goals
      go_wp2_with fail
      refine Calls.mono (copyFactors_k ⟨A, n, c⟩ l _ hm (Row.below hr H2)) ?_
      rintro e w3 ⟨v3, rfl, ho3, hf3, hk3⟩
      have hs2 := H2.size
      go_wp2_with fail
      refine bodyPost_ret (v := .tuple #[.slice v3.A v3.n v3.c, .bool false]) (by simp [*, results, Tryz.results25, go_sem]) rfl ⟨v3, by rw [E.out], ?_⟩
      rw [E.out]; exact ⟨ho3, hf3.rebase hs2, bTrans H2 hk3⟩
  · subst h3
    simp only [Int.zero_add] at h1
    rw [h1]
    clear h1 hneg
    cases b with
    | false =>
      have E := Lib.hid (remF_no (l := l) (id := f.id) (by rw [← HB.out]; rfl))
      go_wp2_with fail
      refine Calls.mono (copyFactors_k ⟨A, n, c⟩ l _ hm (Row.below hr H2)) ?_
      rintro e w3 ⟨v3, rfl, ho3, hf3, hk3⟩
      have hs2 := H2.size
      go_wp2_with fail
      refine bodyPost_ret (v := .tuple #[.slice v3.A v3.n v3.c, .bool false]) (by simp [*, results, Tryz.results25, go_sem]) rfl ⟨v3, by rw [E.out], ?_⟩
      rw [E.out]; exact ⟨ho3, hf3.rebase hs2, bTrans H2 hk3⟩
    | true =>
      have E := Lib.hid (remF_yes HB.out.symm h2)
      have hkn : k < n := by have := (List.getElem?_eq_some_iff.1 h2).1; have := hl.out; omega
      clear h2
      rcases hsl with ⟨rfl, h00, hc0⟩ | ⟨g, off, rfl, hnc1, hnc2⟩
      · omega
      · simp only [maxLen] at hnc2
        have hki0 : (0 : Int) ≤ (k : Int) := by omega
        have hki1 : (k : Int) ≤ (c : Int) := by omega
        have hki2 : (k : Int) + 1 ≤ (n : Int) := by omega
        have hki3 : (n : Int) ≤ (c : Int) := by omega
        have hw1 : IntKind.i64.wrap ((k : Int) + 1) = (k : Int) + 1 := by rw [IntKind.wrap_i64]; omega
        have hki4 : (0 : Int) ≤ (k : Int) + 1 := by omega
        by_cases hkc : k + 1 = c
        · obtain rfl : n = k + 1 := by omega
          subst hkc
          have hkk : (k : Int) + 1 ≤ (k : Int) + 1 := by omega
          have hkk2 : ¬ (k : Int) + 1 < (k : Int) + 1 := by omega
          have hkk3 : (k : Int) ≤ (k : Int) + 1 := by omega
          clear hki1 hki2 hki3
          have hdn : l.drop (k + 1) = [] := List.drop_of_length_le (by have := hl.out; omega)
          have hrd : ∀ w', Below w.heap.size w w' → Row w' (some ⟨g, off, none⟩) 0 8 ((l.drop (k + 1)).map Factor.cells) := fun w' _ => by rw [hdn]; exact Row.nil_ _ _ _
          have HRD := Lib.hid hrd
          clear hrd
          have hfk : fewF (l.take k) := by unfold fewF at *; rw [List.length_take]; omega
          have hrk : ∀ w', Below w.heap.size w w' → RdF w' ⟨some ⟨g, off, none⟩, k, (k + 1)⟩ (l.take k) := fun w' h => Row.take_ (Row.below hr h) (Nat.le_of_lt hkn)
          go_wp2_with fail
          refine region_at fun W hW => ?_
          have hWb : Below w.heap.size w W := by rw [hW.out]; exact H2
          clear hW
          go_region_held3 (fun w' => True) (first | trivial | go_keep) (first | (go_at_call 52; refine Calls.mono (copyFactors_k ⟨some ⟨g, off, none⟩, k, (k + 1)⟩ (l.take k) _ hfk (hrk _ (by repeat (first | with_reducible exact hWb | with_reducible refine bAlloc ?_ _ | with_reducible refine bDrew ?_ | with_reducible refine bDrewN ?_ _)))) ?_; rintro e w3 ⟨v3, rfl, ho3, hf3, hk3⟩) | (refine step_append rfl (.tmp 22) (.tmp 26) 22 rfl w.heap.size 38 8 80 i0 _ Tryz.underlying22 hii hq0 hq1 hq2 rfl (by omega) v3.A v3.n v3.c _ rfl (Own.from_ (OwF.own ho3) (fun g hg => by have h9 := hf3.lo g hg; have h8 := hWb.size; (try simp at h9); omega)) _ 0 _ ((l.drop (k + 1)).map Factor.cells) rfl (HRD.out _ (bTrans (by repeat (first | with_reducible exact hWb | with_reducible refine bAlloc ?_ _ | with_reducible refine bDrew ?_ | with_reducible refine bDrewN ?_ _)) hk3)) one_F cell_F (by have h9 := (OwF.own ho3).len; simp at h9; simp only [maxLen]; omega) (by have h9 := (OwF.own ho3).len; simp at h9; omega) (by have h9 := hk3.size; have h8 := hWb.size; (try simp at h9); (try simp); omega) ?_; intro A4 c4 w4 ho4 hg4 hat4))
          have H3 := bTrans (show Below w.heap.size w _ from (by repeat (first | with_reducible exact hWb | with_reducible refine bAlloc ?_ _ | with_reducible refine bDrew ?_ | with_reducible refine bDrewN ?_ _))) hk3
          have H4 := bGrown (show Below w.heap.size w _ from by repeat (first | with_reducible exact H3 | with_reducible refine bAlloc ?_ _ | with_reducible refine bDrew ?_ | with_reducible refine bDrewN ?_ _)) hg4 (fun q hq => by have h9 := hf3.lo q (mem_obl.2 hq); have h8 := hWb.size; (try simp at h9); omega)
          rw [← List.map_append] at ho4
          clear HRD hrk
          go_wp2_with fail
          refine bodyPost_ret (v := .tuple #[.slice A4 (v3.n + 0) c4, .bool true]) (by simp [*, results, Tryz.results25, go_sem]) rfl ⟨⟨A4, v3.n + 0, c4⟩, by rw [E.out], ?_⟩
          rw [E.out]; exact ⟨ho4.zero, Fresh.obl_ ho4, H4⟩
        · have hkc1 : (k : Int) + 1 < (c : Int) := by omega
          have hrd : ∀ w', Below w.heap.size w w' → Row w' (some ⟨g, off + (k + 1) * 8, none⟩) (n - (k + 1)) 8 ((l.drop (k + 1)).map Factor.cells) := fun w' h => Row.below (Row.drop_ (c := Factor.cells) hr (k := k + 1) (by show k + 1 ≤ n; omega)) h
          have HRD := Lib.hid hrd
          clear hrd
          have hfk : fewF (l.take k) := by unfold fewF at *; rw [List.length_take]; omega
          have hrk : ∀ w', Below w.heap.size w w' → RdF w' ⟨some ⟨g, off, none⟩, k, c⟩ (l.take k) := fun w' h => Row.take_ (Row.below hr h) (Nat.le_of_lt hkn)
          go_wp2_with fail
          refine region_at fun W hW => ?_
          have hWb : Below w.heap.size w W := by rw [hW.out]; exact H2
          clear hW
          go_region_held3 (fun w' => True) (first | trivial | go_keep) (first | (go_at_call 52; refine Calls.mono (copyFactors_k ⟨some ⟨g, off, none⟩, k, c⟩ (l.take k) _ hfk (hrk _ (by repeat (first | with_reducible exact hWb | with_reducible refine bAlloc ?_ _ | with_reducible refine bDrew ?_ | with_reducible refine bDrewN ?_ _)))) ?_; rintro e w3 ⟨v3, rfl, ho3, hf3, hk3⟩) | (refine step_append rfl (.tmp 22) (.tmp 26) 22 rfl w.heap.size 38 8 80 i0 _ Tryz.underlying22 hii hq0 hq1 hq2 rfl (by omega) v3.A v3.n v3.c _ rfl (Own.from_ (OwF.own ho3) (fun g hg => by have h9 := hf3.lo g hg; have h8 := hWb.size; (try simp at h9); omega)) _ (n - (k + 1)) _ ((l.drop (k + 1)).map Factor.cells) rfl (HRD.out _ (bTrans (by repeat (first | with_reducible exact hWb | with_reducible refine bAlloc ?_ _ | with_reducible refine bDrew ?_ | with_reducible refine bDrewN ?_ _)) hk3)) one_F cell_F (by have h9 := (OwF.own ho3).len; simp at h9; simp only [maxLen]; omega) (by have h9 := (OwF.own ho3).len; simp at h9; omega) (by have h9 := hk3.size; have h8 := hWb.size; (try simp at h9); (try simp); omega) ?_; intro A4 c4 w4 ho4 hg4 hat4))
          have H3 := bTrans (show Below w.heap.size w _ from (by repeat (first | with_reducible exact hWb | with_reducible refine bAlloc ?_ _ | with_reducible refine bDrew ?_ | with_reducible refine bDrewN ?_ _))) hk3
          have H4 := bGrown (show Below w.heap.size w _ from by repeat (first | with_reducible exact H3 | with_reducible refine bAlloc ?_ _ | with_reducible refine bDrew ?_ | with_reducible refine bDrewN ?_ _)) hg4 (fun q hq => by have h9 := hf3.lo q (mem_obl.2 hq); have h8 := hWb.size; (try simp at h9); omega)
          rw [← List.map_append] at ho4
          clear HRD hrk
          go_wp2_with fail
          refine bodyPost_ret (v := .tuple #[.slice A4 (v3.n + (n - (k + 1))) c4, .bool true]) (by simp [*, results, Tryz.results25, go_sem]) rfl ⟨⟨A4, v3.n + (n - (k + 1)), c4⟩, by rw [E.out], ?_⟩
          rw [E.out]; exact ⟨ho4.zero, Fresh.obl_ ho4, H4⟩
end Go.Proofs.YtebcdjpddoaajaaGreatDoor

/- RemoveFactor of the reference. -/
namespace Go.Proofs.YtebcdjpddoaajaaGreatDoor
open Go.RowKit
set_option linter.unusedVariables false
set_option linter.unusedSimpArgs false
set_option maxHeartbeats 4000000
set_option maxRecDepth 100000
theorem fil_len : ∀ (l : List Factor) (id : Int), ((l.filter fun g => g.id != id).length = l.length ↔ hasId l id = false)
  | [], id => by simp [hasId]
  | a :: l, id => by
    have ih := fil_len l id
    have hle := List.length_filter_le (fun g : Factor => g.id != id) l
    by_cases h : a.id = id
    · have h1 : hasId (a :: l) id = true := by simp [hasId, h]
      rw [List.filter_cons_of_neg (by simp [h]), h1]
      constructor
      · intro he; simp only [List.length_cons] at he; omega
      · intro he; cases he
    · have h1 : hasId (a :: l) id = hasId l id := by simp [hasId, h]
      rw [List.filter_cons_of_pos (by simpa using h), h1, ← ih]
      simp
theorem fil_snoc {l : List Factor} {k : Nat} {f : Factor} {id : Int} (h : l[k]? = some f) : (l.take (k + 1)).filter (fun g => g.id != id) = (l.take k).filter (fun g => g.id != id) ++ if f.id != id then [f] else [] := by
  obtain ⟨hi, he⟩ := List.getElem?_eq_some_iff.1 h
  rw [List.take_succ_eq_append_getElem hi, List.filter_append, he]
  cases hk : f.id != id <;> simp [List.filter_cons, hk]
theorem spec_RemoveFactor_k (v : Sv) (l : List Factor) (id : Int) (w : World) (hm : fewF l) (hs : smallFs l) (hr : RdF w v l) :
    Calls Tryz.prog 22 #[.slice v.A v.n v.c, .int .i64 id] w fun e w' => ∃ v' : Sv, e = .returned (.tuple #[.slice v'.A v'.n v'.c, .bool (removeF l id).2]) ∧ FPost w v' (removeF l id).1 w' := by
  obtain ⟨i0, hii, hq0, hq1, hq2⟩ := info_parts info_Factor
  have HL := Lib.hid hr.len
  have HR := Lib.hid hr
  have hm1 : v.n ≤ 1048576 := by have h : l.length = v.n := HL.out; unfold fewF at hm; omega
  obtain ⟨A, n, c⟩ := v
  dsimp only at hm1 HL ⊢
  clear hr
  go_enter Tryz.func22, Tryz.ntmps22
  go_wp2_with fail
  go_loopw [6, 12] (fun sv iv wr => ∃ (k m : Nat) (A' : Option Addr) (c' : Nat), k ≤ n ∧ iv = .int .i64 (k : Int) ∧ sv = .slice A' m c' ∧ m ≤ k ∧ ((l.take k).filter fun g => g.id != id).length = m ∧ Own wr w.heap.size 38 8 A' m c' (((l.take k).filter fun g => g.id != id).map Factor.cells) ∧ Below w.heap.size w wr) (fun _ iv _ => n - (intOf iv).toNat)
  case atStart => exact ⟨0, 0, _, 0, Nat.zero_le _, rfl, rfl, Nat.le_refl _, rfl, Own.made0 w _ 8 (Nat.le_refl _), bAlloc (Below.refl _ _) _⟩
  case round =>
    obtain ⟨k, m, A', c', hk, rfl, rfl, hmk, hml, ho, hb⟩ := hrel
    have HO := Lib.hid ho
    have HB := Lib.hid hb
    have hszb := hb.size
    clear ho hb
    by_cases hlt : k < n
    · obtain ⟨f, g, off, hf, rfl, g0, g1, g2, g3, g4, g5, g6, g7⟩ := RowF.at_ (Row.below HR.out HB.out) hlt
      have hsn := fil_snoc (id := id) hf.out
      by_cases hkd : f.id = id
      · have hkb : (f.id != id) = false := by simp [hkd]
        rw [hkb, if_neg (by simp), List.append_nil] at hsn
        have HS := Lib.hid hsn
        clear hsn hf
        go_wp2_with fail
        exact ⟨⟨k + 1, m, A', c', by omega, by simp, rfl, by omega, by rw [HS.out]; exact hml, by rw [HS.out]; exact HO.out.below (bAlloc (Below.refl _ _) _), bAlloc HB.out _⟩, by simp only [intOf]; omega⟩
      · have hkb : (f.id != id) = true := by simpa using hkd
        rw [hkb, if_pos rfl] at hsn
        have HS := Lib.hid hsn
        clear hsn hf
        go_wp2_with (at_builtin; refine wpList_append rfl (.tmp 20) (.tmp 22) 22 rfl w.heap.size 38 8 80 i0 _ Tryz.underlying22 hii hq0 hq1 hq2 rfl (by omega) A' m c' (((l.take k).filter fun g => g.id != id).map Factor.cells) rfl (HO.out.below (by repeat (first | with_reducible exact Below.refl _ _ | with_reducible refine bAlloc ?_ _ | with_reducible refine bDrew ?_ | with_reducible refine bDrewN ?_ _))) _ 1 1 [f.cells] rfl (Row.new1' _ _ f.cells 8 _ (by simp)) (by simp [Factor.cells]) (by simp [Factor.cells, Value.oneCell']) (by simp only [maxLen]; omega) (by omega) (by simp; omega) ?_; intro A5 c5 w5 ho5 hg5 hat5; have HB5 : Below w.heap.size w w5 := bGrown (by repeat (first | with_reducible exact HB.out | with_reducible refine bAlloc ?_ _ | with_reducible refine bDrew ?_ | with_reducible refine bDrewN ?_ _)) hg5 (fun q hq => (HO.out.lt q hq).1))
        exact ⟨⟨k + 1, m + 1, A5, c5, by omega, by simp, by simp, by omega, by rw [HS.out, List.length_append, hml]; rfl, by rw [HS.out, List.map_append]; exact ho5, HB5⟩, by simp only [intOf]; omega⟩
    · obtain rfl : k = n := by omega
      have hkk : ¬ (k : Int) < (k : Int) := by omega
      have hlk : l.length = k := HL.out
      have hT : l.take k = l := List.take_of_length_le (by omega)
      rw [hT] at HO hml
      have hfl := fil_len l id
      rw [hml, hlk] at hfl
      have HFL := Lib.hid hfl
      obtain ⟨b, hb⟩ : ∃ b, b = isFL l := ⟨_, rfl⟩
      have HBB := Lib.hid hb
      clear hT hfl hb
      go_wp2_with fail
      refine Calls.mono (spec_IsFactorList_c A k c l _ hm1 (Row.below HR.out HB.out) hs) ?_
      rw [← HBB.out]
      rintro e w2 ⟨rfl, hk2⟩
      have H2 := Lib.hid (bTrans HB.out hk2)
      have HO2 := Lib.hid (HO.out.below hk2)
      have hsz2 := H2.out.size
      by_cases hyes : b = true ∧ ¬ m = k
      · obtain ⟨rfl, hmk2⟩ := hyes
        have hh : hasId l id = true := by
          cases h : hasId l id with
          | true => rfl
          | false => exact absurd (HFL.out.2 h) hmk2
        have E : Hid (removeF l id = (l.filter (fun g => g.id != id), true)) := by unfold Hid removeF; rw [← HBB.out, hh]; rfl
        have hne : ((m : Int) == (k : Int)) = false := by simp only [beq_eq_false_iff_ne]; omega
        have hneI : ¬ (m : Int) = (k : Int) := by omega
        go_wp2_with fail
        refine bodyPost_ret (v := .tuple #[.slice A' m c', .bool true]) (by simp [*, results, Tryz.results22, go_sem]) rfl ⟨⟨A', m, c'⟩, by rw [E.out], ?_⟩
        rw [E.out]; exact ⟨HO2.out.zero, Fresh.obl_ HO2.out, H2.out⟩
      · have E : Hid (removeF l id = (l, false)) := by
          refine remF_no ?_
          rw [← HBB.out]
          cases b with
          | false => rfl
          | true =>
            have : m = k := by
              by_cases h : m = k
              · exact h
              · exact absurd ⟨rfl, h⟩ hyes
            rw [HFL.out.1 this]; rfl
        have hcase : b = false ∨ m = k := by
          by_cases h : m = k
          · exact .inr h
          · cases b with
            | false => exact .inl rfl
            | true => exact absurd ⟨rfl, h⟩ hyes
        clear hyes
        rcases hcase with rfl | rfl
        all_goals (try cases b)
        all_goals
          go_wp2_with (at_builtin; refine wpList_append rfl (.tmp 35) (.tmp 36) 22 rfl w.heap.size 38 8 80 i0 _ Tryz.underlying22 hii hq0 hq1 hq2 rfl (by omega) (some ⟨w2.heap.size, 0, none⟩) 0 0 [] rfl (Own.made0 w2 _ 8 (by omega)) A _ c (l.map Factor.cells) rfl (Row.below HR.out (bAlloc H2.out _)) one_F cell_F (by simp only [maxLen]; omega) (by omega) (by simp; omega) ?_; intro A5 c5 w5 ho5 hg5 hat5; have HB5 : Below w.heap.size w w5 := bGrown (by repeat (first | with_reducible exact H2.out | with_reducible refine bAlloc ?_ _ | with_reducible refine bDrew ?_ | with_reducible refine bDrewN ?_ _)) hg5 (fun q hq => by simp [ob] at hq; omega))
          simp only [Nat.zero_add, List.nil_append] at ho5
          first | (refine bodyPost_ret (v := .tuple #[.slice A5 k c5, .bool false]) (by simp [*, results, Tryz.results22, go_sem]) rfl ⟨⟨A5, k, c5⟩, by rw [E.out], ?_⟩; rw [E.out]; exact ⟨ho5.zero, Fresh.obl_ ho5, HB5⟩) | (refine bodyPost_ret (v := .tuple #[.slice A5 m c5, .bool false]) (by simp [*, results, Tryz.results22, go_sem]) rfl ⟨⟨A5, m, c5⟩, by rw [E.out], ?_⟩; rw [E.out]; exact ⟨ho5.zero, Fresh.obl_ ho5, HB5⟩)
end Go.Proofs.YtebcdjpddoaajaaGreatDoor

/- Factors are added: what the reference's AddFactor answers. -/
namespace Go.Proofs.YtebcdjpddoaajaaGreatDoor
open Go.RowKit
set_option linter.unusedVariables false
set_option linter.unusedSimpArgs false
set_option maxHeartbeats 2000000
set_option maxRecDepth 100000
theorem made_any (w : World) (B e sz : Nat) {a : Nat} (h : a = w.heap.size) (hB : B ≤ w.heap.size) : Own (w.alloc (.cells #[] e)) B e sz (some ⟨a, 0, none⟩) 0 0 [] := by subst h; exact Own.made0 w e sz hB
/-- an older slice behind three appends to a newer one -/
theorem same_kept {wr X w3 w4 w5 : World} {B e sz n c : Nat} {A : Option Addr} {css : List (List Value)} {r1 r2 r3 : Option Nat} {o : Obj} (h : Own wr B e sz A n c css) (hx : Below wr.heap.size wr X)
    (g1 : X.grownBy w3 r1) (g2 : (w3.alloc o).grownBy w4 r2) (g3 : w4.grownBy w5 r3) (h1 : ∀ q, r1 = some q → wr.heap.size ≤ q) (h2 : ∀ q, r2 = some q → wr.heap.size ≤ q) (h3 : ∀ q, r3 = some q → wr.heap.size ≤ q) : Own w5 B e sz A n c css := by
  have hb : Below wr.heap.size wr w5 := bGrown (bGrown (bAlloc (bGrown hx g1 h1) _) g2 h2) g3 h3
  exact h.below hb
theorem spec_AddFactor_k (v : Sv) (l : List Factor) (f : Factor) (w : World) (hm : fewF l) (hs : smallFs l) (hfs : f.frm.size ≤ 1048576 ∧ f.to.size ≤ 1048576) (hsl : SlOk v) (hr : RdF w v l) :
    Calls Tryz.prog 23 #[.slice v.A v.n v.c, vFactor f.id f.kind f.frm f.to f.pose.turn f.pose.x f.pose.y f.weight] w fun e w' => ∃ v' : Sv, e = .returned (.tuple #[.slice v'.A v'.n v'.c, .bool (addF l f).2]) ∧ FPost w v' (addF l f).1 w' := by
  obtain ⟨A, n, c⟩ := v
  have hnc := hsl.nc
  dsimp only [SlOk] at hnc hsl ⊢
  obtain ⟨hnc1, hnc2⟩ := hnc
  have hl := hr.len
  have hm1 : n ≤ 1048576 := by have := hl.out; unfold fewF at hm; simp only at this; omega
  obtain ⟨i0, hii, hq0, hq1, hq2⟩ := info_parts info_Factor
  generalize hb1 : isFL l = b1
  have HB1 := Lib.hid hb1
  clear hb1
  go_enter Tryz.func23, Tryz.ntmps23
  go_wp2_with (at_builtin; refine wpList_append rfl (.tmp 9) (.tmp 10) 22 rfl w.heap.size 38 8 80 i0 _ Tryz.underlying22 hii hq0 hq1 hq2 rfl (by omega) _ 0 0 [] rfl (made_any _ _ _ _ (by simp) (by simp)) A n c (l.map Factor.cells) rfl (Row.below hr (bAlloc (bAlloc (Below.refl _ _) _) _)) one_F cell_F (by simp only [maxLen]; omega) (by omega) (by simp; try omega) ?_; intro A1 c1 w1 ho1 hg1 hat1; have k1 := gBox hg1 w.heap.size (by simp; try omega) (fun q hq e => by simp [ob] at hq; omega); have z1 : w.heap.size + 1 ≤ w1.heap.size := (by have h9 := hg1.size; simp at h9; omega))
  simp only [Nat.zero_add, List.nil_append] at ho1
  have H1 := bGrown (bAlloc (bAlloc (Below.refl w.heap.size w) _) _) hg1 (fun q hq => by simp [ob] at hq; omega)
  go_wp2_with fail
  refine Calls.mono (spec_IsFactorList_c A n c l _ hm1 (Row.below hr H1) hs) ?_
  rintro e w2 ⟨rfl, hk2⟩
  rw [HB1.out]
  have H := bTrans H1 hk2
  have ho1 := ho1.below hk2
  have k2 := bBox hk2 w.heap.size (by omega)
  have z2 : w.heap.size + 1 ≤ w2.heap.size := by have := hk2.size; omega
  cases b1
  · have E := Lib.hid (addF_no (f := f) HB1.out)
    go_wp2_with fail
    go_ret2
    rw [E.out]
    exact ⟨⟨A1, _, c1⟩, rfl, ho1.zero, Fresh.obl_ ho1, H⟩
  go_wp2_with fail
  go_loopw [7] (fun i wr => ∃ (k : Nat), k ≤ n ∧ i = .int .i64 k ∧ InsInv l f k ∧ Below w2.heap.size w2 wr) (fun i _ => n - (intOf i).toNat)
  case atStart => exact ⟨0, by omega, rfl, InsInv.start l f, Below.refl _ _⟩
  case round =>
    obtain ⟨k, hk, rfl, hi, hbr⟩ := hrel
    have kr := bBox hbr w.heap.size (by omega)
    have zr : w.heap.size + 1 ≤ wr.heap.size := by have := hbr.size; omega
    have Hr := bTrans H hbr
    have ho1 := ho1.below hbr
    by_cases hlt : k < n
    · obtain ⟨p, g, off, hf, rfl, g0, -⟩ := RowF.at_ (Row.below hr Hr) hlt
      have h0 : (0 : Int) ≤ (k : Int) := by omega
      have h1 : (k : Int) < (n : Int) := by omega
      by_cases hid : p.id < f.id
      · have hnx := hi.step hf hid
        clear hi
        go_wp2_with fail
        go_quiet (fail)
        go_wp2_with fail
        go_roundw
        case rel => exact ⟨k + 1, by omega, by go_num, hnx, bDrewN hbr _⟩
        case measure => simp [intOf]; omega
      · have hat := hi.stop hf hid
        clear hi
        go_wp2_with fail
        go_quiet (fail)
        have gb0 : wr.cell? ⟨w.heap.size, 0, none⟩ = some (.int .i64 f.id) := by rw [kr, k2, k1]; simp
        have gb1 : wr.cell? ⟨w.heap.size, 1, none⟩ = some (.int .i64 f.kind) := by rw [kr, k2, k1]; simp
        have gb2 : wr.cell? ⟨w.heap.size, 2, none⟩ = some (.string f.frm) := by rw [kr, k2, k1]; simp
        have gb3 : wr.cell? ⟨w.heap.size, 3, none⟩ = some (.string f.to) := by rw [kr, k2, k1]; simp
        have gb4 : wr.cell? ⟨w.heap.size, 4, none⟩ = some (.int .i64 f.pose.turn) := by rw [kr, k2, k1]; simp
        have gb5 : wr.cell? ⟨w.heap.size, 5, none⟩ = some (.int .i64 f.pose.x) := by rw [kr, k2, k1]; simp
        have gb6 : wr.cell? ⟨w.heap.size, 6, none⟩ = some (.int .i64 f.pose.y) := by rw [kr, k2, k1]; simp
        have gb7 : wr.cell? ⟨w.heap.size, 7, none⟩ = some (.int .i64 f.weight) := by rw [kr, k2, k1]; simp
        clear kr k2 k1
        have hkc : (k : Int) ≤ (c : Int) := by omega
        have hk00 : (0 : Int) ≤ (k : Int) := by omega
        have hrk : RdF wr ⟨some ⟨g, off, none⟩, k, c⟩ (l.take k) := Row.take_ (Row.below hr Hr) (by omega)
        have L40 := isFL_len HB1.out
        have L9 : l.length = n := hl.out
        go_wp2_with (first | (at_builtin; (refine wpList_append rfl (.tmp 32) (.tmp 35) 22 rfl wr.heap.size 38 8 80 i0 _ Tryz.underlying22 hii hq0 hq1 hq2 rfl (by omega) (some ⟨wr.heap.size, 0, none⟩) 0 0 [] rfl (made_any _ _ _ _ (by simp) (by simp)) (some ⟨g, off, none⟩) k c ((l.take k).map Factor.cells) rfl (Row.below hrk (by repeat (first | with_reducible exact Below.refl _ _ | with_reducible refine bAlloc ?_ _ | with_reducible refine bDrew ?_ | with_reducible refine bDrewN ?_ _))) one_F cell_F (by simp only [maxLen]; omega) (by omega) (by simp) ?_; intro A2 c2 w3 ho2 hg2 hat2; simp only [Nat.zero_add, List.nil_append] at ho2 ⊢; have kb := gBox hg2 w.heap.size (by first | omega | (simp; omega)) (fun q hq e => by simp [ob] at hq; omega); have z3 : w.heap.size + 1 ≤ w3.heap.size := (by have h9 := hg2.size; simp at h9; omega); have gc0 : w3.cell? ⟨w.heap.size, 0, none⟩ = some (.int .i64 f.id) := (kb 0).trans (bCell (by repeat (first | with_reducible exact Below.refl _ _ | with_reducible refine bAlloc ?_ _ | with_reducible refine bDrew ?_ | with_reducible refine bDrewN ?_ _)) gb0); have gc1 : w3.cell? ⟨w.heap.size, 1, none⟩ = some (.int .i64 f.kind) := (kb 1).trans (bCell (by repeat (first | with_reducible exact Below.refl _ _ | with_reducible refine bAlloc ?_ _ | with_reducible refine bDrew ?_ | with_reducible refine bDrewN ?_ _)) gb1); have gc2 : w3.cell? ⟨w.heap.size, 2, none⟩ = some (.string f.frm) := (kb 2).trans (bCell (by repeat (first | with_reducible exact Below.refl _ _ | with_reducible refine bAlloc ?_ _ | with_reducible refine bDrew ?_ | with_reducible refine bDrewN ?_ _)) gb2); have gc3 : w3.cell? ⟨w.heap.size, 3, none⟩ = some (.string f.to) := (kb 3).trans (bCell (by repeat (first | with_reducible exact Below.refl _ _ | with_reducible refine bAlloc ?_ _ | with_reducible refine bDrew ?_ | with_reducible refine bDrewN ?_ _)) gb3); have gc4 : w3.cell? ⟨w.heap.size, 4, none⟩ = some (.int .i64 f.pose.turn) := (kb 4).trans (bCell (by repeat (first | with_reducible exact Below.refl _ _ | with_reducible refine bAlloc ?_ _ | with_reducible refine bDrew ?_ | with_reducible refine bDrewN ?_ _)) gb4); have gc5 : w3.cell? ⟨w.heap.size, 5, none⟩ = some (.int .i64 f.pose.x) := (kb 5).trans (bCell (by repeat (first | with_reducible exact Below.refl _ _ | with_reducible refine bAlloc ?_ _ | with_reducible refine bDrew ?_ | with_reducible refine bDrewN ?_ _)) gb5); have gc6 : w3.cell? ⟨w.heap.size, 6, none⟩ = some (.int .i64 f.pose.y) := (kb 6).trans (bCell (by repeat (first | with_reducible exact Below.refl _ _ | with_reducible refine bAlloc ?_ _ | with_reducible refine bDrew ?_ | with_reducible refine bDrewN ?_ _)) gb6); have gc7 : w3.cell? ⟨w.heap.size, 7, none⟩ = some (.int .i64 f.weight) := (kb 7).trans (bCell (by repeat (first | with_reducible exact Below.refl _ _ | with_reducible refine bAlloc ?_ _ | with_reducible refine bDrew ?_ | with_reducible refine bDrewN ?_ _)) gb7); clear kb)) | (at_builtin; (refine wpList_append rfl (.tmp 37) (.tmp 39) 22 rfl wr.heap.size 38 8 80 i0 _ Tryz.underlying22 hii hq0 hq1 hq2 rfl (by omega) A2 (k) c2 _ rfl (ho2.alloc_ _) _ 1 1 [f.cells] rfl (Row.new1' _ _ f.cells 8 _ (by simp)) (by simp [Factor.cells]) (by simp [Factor.cells, Value.oneCell']) (by simp only [maxLen]; omega) (by omega) (by have h9 := hg2.size; simp at h9 ⊢; omega) ?_; intro A4 c4 w4 ho4 hg4 hat4; have Z4 : wr.heap.size ≤ w4.heap.size := (by have h8 := hg2.size; have h9 := hg4.size; simp at h8 h9; omega); have H4 : Below w.heap.size w w4 := bGrown (bAlloc (bGrown (show Below w.heap.size w _ from by repeat (first | with_reducible exact Hr | with_reducible refine bAlloc ?_ _ | with_reducible refine bDrew ?_ | with_reducible refine bDrewN ?_ _)) hg2 (fun q hq => by simp [ob] at hq; omega)) _) hg4 (fun q hq => by have h9 := (ho2.lt q hq).1; omega))) | (at_builtin; refine wpList_append rfl (.tmp 41) (.tmp 44) 22 rfl wr.heap.size 38 8 80 i0 _ Tryz.underlying22 hii hq0 hq1 hq2 rfl (by omega) A4 (k + 1) c4 _ rfl ho4 (some ⟨g, off + k * 8, none⟩) (n - k) (c - k) ((l.drop k).map Factor.cells) rfl (Row.drop_ (Row.below hr H4) hk) one_F cell_F (by simp only [maxLen]; omega) (by omega) Z4 ?_; intro A5 c5 w5 ho5 hg5 hat5))
        have H5 := bGrown H4 hg5 (fun q hq => by have h9 := (ho4.lt q hq).1; omega)
        have hs1 : Own w5 w.heap.size 38 8 A1 n c1 (l.map Factor.cells) := same_kept ho1 (by repeat (first | with_reducible exact Below.refl _ _ | with_reducible refine bAlloc ?_ _ | with_reducible refine bDrew ?_ | with_reducible refine bDrewN ?_ _)) hg2 hg4 hg5 (fun q hq => by simp [ob] at hq; omega) (fun q hq => (ho2.lt q hq).1) (fun q hq => (ho4.lt q hq).1)
        have e6 : ((l.take k).map Factor.cells ++ [f.cells] ++ (l.drop k).map Factor.cells) = (insF l f).map Factor.cells := by rw [insF, hat.out]; simp
        (try simp only [List.nil_append] at ho5)
        rw [e6] at ho5
        have hsm : smallFs (insF l f) := ins_small hs hfs
        generalize hb3 : isFL (insF l f) = b3
        have HB3 := Lib.hid hb3
        clear hb3
        go_wp2_with fail
        refine Calls.mono (spec_IsFactorList_c A5 _ c5 (insF l f) _ ?_ ho5.row hsm) ?_
        · omega
        rintro e w6 ⟨rfl, hk6⟩
        rw [HB3.out]
        have H6 := bTrans H5 hk6
        have ho6 := (ho5.below hk6).rebase (show w.heap.size ≤ wr.heap.size from Hr.size)
        cases b3
        · have E := Lib.hid (addF_bad HB3.out)
          have hs2 := hs1.below hk6
          go_wp2_with fail
          go_ret2
          rw [E.out]
          exact ⟨⟨A1, _, c1⟩, rfl, hs2.zero, Fresh.obl_ hs2, H6⟩
        · have E := Lib.hid (addF_yes HB1.out HB3.out)
          go_wp2_with fail
          go_ret2
          rw [E.out]
          exact ⟨⟨A5, _, c5⟩, rfl, ho6.zero, Fresh.obl_ ho6, H6⟩
    · have hat := hi.done hl hlt
      clear hi
      have h1 : ¬ (k : Int) < (n : Int) := by omega
      obtain rfl : k = n := by omega
      rcases hsl with ⟨rfl, h00, hc0⟩ | ⟨g, off, rfl, hnc1, hnc2⟩
      · subst h00; subst hc0
        go_wp2_with fail
        go_quiet (fail)
        have gb0 : wr.cell? ⟨w.heap.size, 0, none⟩ = some (.int .i64 f.id) := by rw [kr, k2, k1]; simp
        have gb1 : wr.cell? ⟨w.heap.size, 1, none⟩ = some (.int .i64 f.kind) := by rw [kr, k2, k1]; simp
        have gb2 : wr.cell? ⟨w.heap.size, 2, none⟩ = some (.string f.frm) := by rw [kr, k2, k1]; simp
        have gb3 : wr.cell? ⟨w.heap.size, 3, none⟩ = some (.string f.to) := by rw [kr, k2, k1]; simp
        have gb4 : wr.cell? ⟨w.heap.size, 4, none⟩ = some (.int .i64 f.pose.turn) := by rw [kr, k2, k1]; simp
        have gb5 : wr.cell? ⟨w.heap.size, 5, none⟩ = some (.int .i64 f.pose.x) := by rw [kr, k2, k1]; simp
        have gb6 : wr.cell? ⟨w.heap.size, 6, none⟩ = some (.int .i64 f.pose.y) := by rw [kr, k2, k1]; simp
        have gb7 : wr.cell? ⟨w.heap.size, 7, none⟩ = some (.int .i64 f.weight) := by rw [kr, k2, k1]; simp
        clear kr k2 k1
        have hkc : ((0 : Nat) : Int) ≤ ((0 : Nat) : Int) := by omega
        have hk00 : ((0 : Nat) : Int) ≤ ((0 : Nat) : Int) := by omega
        have hrk : RdF wr ⟨none, 0, 0⟩ (l.take 0) := Row.take_ (Row.below hr Hr) (by omega)
        have L40 := isFL_len HB1.out
        have L9 : l.length = 0 := hl.out
        go_wp2_with (first | (at_builtin; (refine wpList_append rfl (.tmp 32) (.tmp 35) 22 rfl wr.heap.size 38 8 80 i0 _ Tryz.underlying22 hii hq0 hq1 hq2 rfl (by omega) (some ⟨wr.heap.size, 0, none⟩) 0 0 [] rfl (made_any _ _ _ _ (by simp) (by simp)) (none) 0 0 ((l.take 0).map Factor.cells) rfl (Row.below hrk (by repeat (first | with_reducible exact Below.refl _ _ | with_reducible refine bAlloc ?_ _ | with_reducible refine bDrew ?_ | with_reducible refine bDrewN ?_ _))) one_F cell_F (by simp only [maxLen]; omega) (by omega) (by simp) ?_; intro A2 c2 w3 ho2 hg2 hat2; simp only [Nat.zero_add, List.nil_append] at ho2 ⊢; have kb := gBox hg2 w.heap.size (by first | omega | (simp; omega)) (fun q hq e => by simp [ob] at hq; omega); have z3 : w.heap.size + 1 ≤ w3.heap.size := (by have h9 := hg2.size; simp at h9; omega); have gc0 : w3.cell? ⟨w.heap.size, 0, none⟩ = some (.int .i64 f.id) := (kb 0).trans (bCell (by repeat (first | with_reducible exact Below.refl _ _ | with_reducible refine bAlloc ?_ _ | with_reducible refine bDrew ?_ | with_reducible refine bDrewN ?_ _)) gb0); have gc1 : w3.cell? ⟨w.heap.size, 1, none⟩ = some (.int .i64 f.kind) := (kb 1).trans (bCell (by repeat (first | with_reducible exact Below.refl _ _ | with_reducible refine bAlloc ?_ _ | with_reducible refine bDrew ?_ | with_reducible refine bDrewN ?_ _)) gb1); have gc2 : w3.cell? ⟨w.heap.size, 2, none⟩ = some (.string f.frm) := (kb 2).trans (bCell (by repeat (first | with_reducible exact Below.refl _ _ | with_reducible refine bAlloc ?_ _ | with_reducible refine bDrew ?_ | with_reducible refine bDrewN ?_ _)) gb2); have gc3 : w3.cell? ⟨w.heap.size, 3, none⟩ = some (.string f.to) := (kb 3).trans (bCell (by repeat (first | with_reducible exact Below.refl _ _ | with_reducible refine bAlloc ?_ _ | with_reducible refine bDrew ?_ | with_reducible refine bDrewN ?_ _)) gb3); have gc4 : w3.cell? ⟨w.heap.size, 4, none⟩ = some (.int .i64 f.pose.turn) := (kb 4).trans (bCell (by repeat (first | with_reducible exact Below.refl _ _ | with_reducible refine bAlloc ?_ _ | with_reducible refine bDrew ?_ | with_reducible refine bDrewN ?_ _)) gb4); have gc5 : w3.cell? ⟨w.heap.size, 5, none⟩ = some (.int .i64 f.pose.x) := (kb 5).trans (bCell (by repeat (first | with_reducible exact Below.refl _ _ | with_reducible refine bAlloc ?_ _ | with_reducible refine bDrew ?_ | with_reducible refine bDrewN ?_ _)) gb5); have gc6 : w3.cell? ⟨w.heap.size, 6, none⟩ = some (.int .i64 f.pose.y) := (kb 6).trans (bCell (by repeat (first | with_reducible exact Below.refl _ _ | with_reducible refine bAlloc ?_ _ | with_reducible refine bDrew ?_ | with_reducible refine bDrewN ?_ _)) gb6); have gc7 : w3.cell? ⟨w.heap.size, 7, none⟩ = some (.int .i64 f.weight) := (kb 7).trans (bCell (by repeat (first | with_reducible exact Below.refl _ _ | with_reducible refine bAlloc ?_ _ | with_reducible refine bDrew ?_ | with_reducible refine bDrewN ?_ _)) gb7); clear kb)) | (at_builtin; (refine wpList_append rfl (.tmp 37) (.tmp 39) 22 rfl wr.heap.size 38 8 80 i0 _ Tryz.underlying22 hii hq0 hq1 hq2 rfl (by omega) A2 (0) c2 _ rfl (ho2.alloc_ _) _ 1 1 [f.cells] rfl (Row.new1' _ _ f.cells 8 _ (by simp)) (by simp [Factor.cells]) (by simp [Factor.cells, Value.oneCell']) (by simp only [maxLen]; omega) (by omega) (by have h9 := hg2.size; simp at h9 ⊢; omega) ?_; intro A4 c4 w4 ho4 hg4 hat4; have Z4 : wr.heap.size ≤ w4.heap.size := (by have h8 := hg2.size; have h9 := hg4.size; simp at h8 h9; omega); have H4 : Below w.heap.size w w4 := bGrown (bAlloc (bGrown (show Below w.heap.size w _ from by repeat (first | with_reducible exact Hr | with_reducible refine bAlloc ?_ _ | with_reducible refine bDrew ?_ | with_reducible refine bDrewN ?_ _)) hg2 (fun q hq => by simp [ob] at hq; omega)) _) hg4 (fun q hq => by have h9 := (ho2.lt q hq).1; omega))) | (at_builtin; refine wpList_append rfl (.tmp 41) (.tmp 44) 22 rfl wr.heap.size 38 8 80 i0 _ Tryz.underlying22 hii hq0 hq1 hq2 rfl (by omega) A4 (0 + 1) c4 _ rfl ho4 _ 0 _ [] rfl (Row.nil_ _ _ _) (by simp) (by simp) (by simp only [maxLen]; omega) (by omega) Z4 ?_; intro A5 c5 w5 ho5 hg5 hat5))
        have H5 := bGrown H4 hg5 (fun q hq => by have h9 := (ho4.lt q hq).1; omega)
        have hs1 : Own w5 w.heap.size 38 8 A1 0 c1 (l.map Factor.cells) := same_kept ho1 (by repeat (first | with_reducible exact Below.refl _ _ | with_reducible refine bAlloc ?_ _ | with_reducible refine bDrew ?_ | with_reducible refine bDrewN ?_ _)) hg2 hg4 hg5 (fun q hq => by simp [ob] at hq; omega) (fun q hq => (ho2.lt q hq).1) (fun q hq => (ho4.lt q hq).1)
        have e6 : ((l.take 0).map Factor.cells ++ [f.cells] ++ []) = (insF l f).map Factor.cells := by rw [insF, hat.out]; simp; first | omega | exact List.eq_nil_of_length_eq_zero L9 | (rw [List.eq_nil_of_length_eq_zero L9]; rfl)
        (try simp only [List.nil_append] at ho5)
        rw [e6] at ho5
        have hsm : smallFs (insF l f) := ins_small hs hfs
        generalize hb3 : isFL (insF l f) = b3
        have HB3 := Lib.hid hb3
        clear hb3
        go_wp2_with fail
        refine Calls.mono (spec_IsFactorList_c A5 _ c5 (insF l f) _ ?_ ho5.row hsm) ?_
        · omega
        rintro e w6 ⟨rfl, hk6⟩
        rw [HB3.out]
        have H6 := bTrans H5 hk6
        have ho6 := (ho5.below hk6).rebase (show w.heap.size ≤ wr.heap.size from Hr.size)
        cases b3
        · have E := Lib.hid (addF_bad HB3.out)
          have hs2 := hs1.below hk6
          go_wp2_with fail
          go_ret2
          rw [E.out]
          exact ⟨⟨A1, _, c1⟩, rfl, hs2.zero, Fresh.obl_ hs2, H6⟩
        · have E := Lib.hid (addF_yes HB1.out HB3.out)
          go_wp2_with fail
          go_ret2
          rw [E.out]
          exact ⟨⟨A5, _, c5⟩, rfl, ho6.zero, Fresh.obl_ ho6, H6⟩
      · by_cases hkc2 : k = c
        · subst hkc2
          go_wp2_with fail
          go_quiet (fail)
          have gb0 : wr.cell? ⟨w.heap.size, 0, none⟩ = some (.int .i64 f.id) := by rw [kr, k2, k1]; simp
          have gb1 : wr.cell? ⟨w.heap.size, 1, none⟩ = some (.int .i64 f.kind) := by rw [kr, k2, k1]; simp
          have gb2 : wr.cell? ⟨w.heap.size, 2, none⟩ = some (.string f.frm) := by rw [kr, k2, k1]; simp
          have gb3 : wr.cell? ⟨w.heap.size, 3, none⟩ = some (.string f.to) := by rw [kr, k2, k1]; simp
          have gb4 : wr.cell? ⟨w.heap.size, 4, none⟩ = some (.int .i64 f.pose.turn) := by rw [kr, k2, k1]; simp
          have gb5 : wr.cell? ⟨w.heap.size, 5, none⟩ = some (.int .i64 f.pose.x) := by rw [kr, k2, k1]; simp
          have gb6 : wr.cell? ⟨w.heap.size, 6, none⟩ = some (.int .i64 f.pose.y) := by rw [kr, k2, k1]; simp
          have gb7 : wr.cell? ⟨w.heap.size, 7, none⟩ = some (.int .i64 f.weight) := by rw [kr, k2, k1]; simp
          clear kr k2 k1
          have hkc : (k : Int) ≤ (k : Int) := by omega
          have hk00 : (0 : Int) ≤ (k : Int) := by omega
          have hrk : RdF wr ⟨some ⟨g, off, none⟩, k, k⟩ (l.take k) := Row.take_ (Row.below hr Hr) (by omega)
          have L40 := isFL_len HB1.out
          have L9 : l.length = k := hl.out
          go_wp2_with (first | (at_builtin; (refine wpList_append rfl (.tmp 32) (.tmp 35) 22 rfl wr.heap.size 38 8 80 i0 _ Tryz.underlying22 hii hq0 hq1 hq2 rfl (by omega) (some ⟨wr.heap.size, 0, none⟩) 0 0 [] rfl (made_any _ _ _ _ (by simp) (by simp)) (some ⟨g, off, none⟩) k k ((l.take k).map Factor.cells) rfl (Row.below hrk (by repeat (first | with_reducible exact Below.refl _ _ | with_reducible refine bAlloc ?_ _ | with_reducible refine bDrew ?_ | with_reducible refine bDrewN ?_ _))) one_F cell_F (by simp only [maxLen]; omega) (by omega) (by simp) ?_; intro A2 c2 w3 ho2 hg2 hat2; simp only [Nat.zero_add, List.nil_append] at ho2 ⊢; have kb := gBox hg2 w.heap.size (by first | omega | (simp; omega)) (fun q hq e => by simp [ob] at hq; omega); have z3 : w.heap.size + 1 ≤ w3.heap.size := (by have h9 := hg2.size; simp at h9; omega); have gc0 : w3.cell? ⟨w.heap.size, 0, none⟩ = some (.int .i64 f.id) := (kb 0).trans (bCell (by repeat (first | with_reducible exact Below.refl _ _ | with_reducible refine bAlloc ?_ _ | with_reducible refine bDrew ?_ | with_reducible refine bDrewN ?_ _)) gb0); have gc1 : w3.cell? ⟨w.heap.size, 1, none⟩ = some (.int .i64 f.kind) := (kb 1).trans (bCell (by repeat (first | with_reducible exact Below.refl _ _ | with_reducible refine bAlloc ?_ _ | with_reducible refine bDrew ?_ | with_reducible refine bDrewN ?_ _)) gb1); have gc2 : w3.cell? ⟨w.heap.size, 2, none⟩ = some (.string f.frm) := (kb 2).trans (bCell (by repeat (first | with_reducible exact Below.refl _ _ | with_reducible refine bAlloc ?_ _ | with_reducible refine bDrew ?_ | with_reducible refine bDrewN ?_ _)) gb2); have gc3 : w3.cell? ⟨w.heap.size, 3, none⟩ = some (.string f.to) := (kb 3).trans (bCell (by repeat (first | with_reducible exact Below.refl _ _ | with_reducible refine bAlloc ?_ _ | with_reducible refine bDrew ?_ | with_reducible refine bDrewN ?_ _)) gb3); have gc4 : w3.cell? ⟨w.heap.size, 4, none⟩ = some (.int .i64 f.pose.turn) := (kb 4).trans (bCell (by repeat (first | with_reducible exact Below.refl _ _ | with_reducible refine bAlloc ?_ _ | with_reducible refine bDrew ?_ | with_reducible refine bDrewN ?_ _)) gb4); have gc5 : w3.cell? ⟨w.heap.size, 5, none⟩ = some (.int .i64 f.pose.x) := (kb 5).trans (bCell (by repeat (first | with_reducible exact Below.refl _ _ | with_reducible refine bAlloc ?_ _ | with_reducible refine bDrew ?_ | with_reducible refine bDrewN ?_ _)) gb5); have gc6 : w3.cell? ⟨w.heap.size, 6, none⟩ = some (.int .i64 f.pose.y) := (kb 6).trans (bCell (by repeat (first | with_reducible exact Below.refl _ _ | with_reducible refine bAlloc ?_ _ | with_reducible refine bDrew ?_ | with_reducible refine bDrewN ?_ _)) gb6); have gc7 : w3.cell? ⟨w.heap.size, 7, none⟩ = some (.int .i64 f.weight) := (kb 7).trans (bCell (by repeat (first | with_reducible exact Below.refl _ _ | with_reducible refine bAlloc ?_ _ | with_reducible refine bDrew ?_ | with_reducible refine bDrewN ?_ _)) gb7); clear kb)) | (at_builtin; (refine wpList_append rfl (.tmp 37) (.tmp 39) 22 rfl wr.heap.size 38 8 80 i0 _ Tryz.underlying22 hii hq0 hq1 hq2 rfl (by omega) A2 (k) c2 _ rfl (ho2.alloc_ _) _ 1 1 [f.cells] rfl (Row.new1' _ _ f.cells 8 _ (by simp)) (by simp [Factor.cells]) (by simp [Factor.cells, Value.oneCell']) (by simp only [maxLen]; omega) (by omega) (by have h9 := hg2.size; simp at h9 ⊢; omega) ?_; intro A4 c4 w4 ho4 hg4 hat4; have Z4 : wr.heap.size ≤ w4.heap.size := (by have h8 := hg2.size; have h9 := hg4.size; simp at h8 h9; omega); have H4 : Below w.heap.size w w4 := bGrown (bAlloc (bGrown (show Below w.heap.size w _ from by repeat (first | with_reducible exact Hr | with_reducible refine bAlloc ?_ _ | with_reducible refine bDrew ?_ | with_reducible refine bDrewN ?_ _)) hg2 (fun q hq => by simp [ob] at hq; omega)) _) hg4 (fun q hq => by have h9 := (ho2.lt q hq).1; omega))) | (at_builtin; refine wpList_append rfl (.tmp 41) (.tmp 44) 22 rfl wr.heap.size 38 8 80 i0 _ Tryz.underlying22 hii hq0 hq1 hq2 rfl (by omega) A4 (k + 1) c4 _ rfl ho4 _ 0 _ [] rfl (Row.nil_ _ _ _) (by simp) (by simp) (by simp only [maxLen]; omega) (by omega) Z4 ?_; intro A5 c5 w5 ho5 hg5 hat5))
          have H5 := bGrown H4 hg5 (fun q hq => by have h9 := (ho4.lt q hq).1; omega)
          have hs1 : Own w5 w.heap.size 38 8 A1 k c1 (l.map Factor.cells) := same_kept ho1 (by repeat (first | with_reducible exact Below.refl _ _ | with_reducible refine bAlloc ?_ _ | with_reducible refine bDrew ?_ | with_reducible refine bDrewN ?_ _)) hg2 hg4 hg5 (fun q hq => by simp [ob] at hq; omega) (fun q hq => (ho2.lt q hq).1) (fun q hq => (ho4.lt q hq).1)
          have e6 : ((l.take k).map Factor.cells ++ [f.cells] ++ []) = (insF l f).map Factor.cells := by rw [insF, hat.out]; simp; first | omega | exact List.eq_nil_of_length_eq_zero L9 | (rw [List.eq_nil_of_length_eq_zero L9]; rfl)
          (try simp only [List.nil_append] at ho5)
          rw [e6] at ho5
          have hsm : smallFs (insF l f) := ins_small hs hfs
          generalize hb3 : isFL (insF l f) = b3
          have HB3 := Lib.hid hb3
          clear hb3
          go_wp2_with fail
          refine Calls.mono (spec_IsFactorList_c A5 _ c5 (insF l f) _ ?_ ho5.row hsm) ?_
          · omega
          rintro e w6 ⟨rfl, hk6⟩
          rw [HB3.out]
          have H6 := bTrans H5 hk6
          have ho6 := (ho5.below hk6).rebase (show w.heap.size ≤ wr.heap.size from Hr.size)
          cases b3
          · have E := Lib.hid (addF_bad HB3.out)
            have hs2 := hs1.below hk6
            go_wp2_with fail
            go_ret2
            rw [E.out]
            exact ⟨⟨A1, _, c1⟩, rfl, hs2.zero, Fresh.obl_ hs2, H6⟩
          · have E := Lib.hid (addF_yes HB1.out HB3.out)
            go_wp2_with fail
            go_ret2
            rw [E.out]
            exact ⟨⟨A5, _, c5⟩, rfl, ho6.zero, Fresh.obl_ ho6, H6⟩
        · have hkc3 : k < c := by omega
          go_wp2_with fail
          go_quiet (fail)
          have gb0 : wr.cell? ⟨w.heap.size, 0, none⟩ = some (.int .i64 f.id) := by rw [kr, k2, k1]; simp
          have gb1 : wr.cell? ⟨w.heap.size, 1, none⟩ = some (.int .i64 f.kind) := by rw [kr, k2, k1]; simp
          have gb2 : wr.cell? ⟨w.heap.size, 2, none⟩ = some (.string f.frm) := by rw [kr, k2, k1]; simp
          have gb3 : wr.cell? ⟨w.heap.size, 3, none⟩ = some (.string f.to) := by rw [kr, k2, k1]; simp
          have gb4 : wr.cell? ⟨w.heap.size, 4, none⟩ = some (.int .i64 f.pose.turn) := by rw [kr, k2, k1]; simp
          have gb5 : wr.cell? ⟨w.heap.size, 5, none⟩ = some (.int .i64 f.pose.x) := by rw [kr, k2, k1]; simp
          have gb6 : wr.cell? ⟨w.heap.size, 6, none⟩ = some (.int .i64 f.pose.y) := by rw [kr, k2, k1]; simp
          have gb7 : wr.cell? ⟨w.heap.size, 7, none⟩ = some (.int .i64 f.weight) := by rw [kr, k2, k1]; simp
          clear kr k2 k1
          have hkc : (k : Int) ≤ (c : Int) := by omega
          have hk00 : (0 : Int) ≤ (k : Int) := by omega
          have hrk : RdF wr ⟨some ⟨g, off, none⟩, k, c⟩ (l.take k) := Row.take_ (Row.below hr Hr) (by omega)
          have L40 := isFL_len HB1.out
          have L9 : l.length = k := hl.out
          go_wp2_with (first | (at_builtin; (refine wpList_append rfl (.tmp 32) (.tmp 35) 22 rfl wr.heap.size 38 8 80 i0 _ Tryz.underlying22 hii hq0 hq1 hq2 rfl (by omega) (some ⟨wr.heap.size, 0, none⟩) 0 0 [] rfl (made_any _ _ _ _ (by simp) (by simp)) (some ⟨g, off, none⟩) k c ((l.take k).map Factor.cells) rfl (Row.below hrk (by repeat (first | with_reducible exact Below.refl _ _ | with_reducible refine bAlloc ?_ _ | with_reducible refine bDrew ?_ | with_reducible refine bDrewN ?_ _))) one_F cell_F (by simp only [maxLen]; omega) (by omega) (by simp) ?_; intro A2 c2 w3 ho2 hg2 hat2; simp only [Nat.zero_add, List.nil_append] at ho2 ⊢; have kb := gBox hg2 w.heap.size (by first | omega | (simp; omega)) (fun q hq e => by simp [ob] at hq; omega); have z3 : w.heap.size + 1 ≤ w3.heap.size := (by have h9 := hg2.size; simp at h9; omega); have gc0 : w3.cell? ⟨w.heap.size, 0, none⟩ = some (.int .i64 f.id) := (kb 0).trans (bCell (by repeat (first | with_reducible exact Below.refl _ _ | with_reducible refine bAlloc ?_ _ | with_reducible refine bDrew ?_ | with_reducible refine bDrewN ?_ _)) gb0); have gc1 : w3.cell? ⟨w.heap.size, 1, none⟩ = some (.int .i64 f.kind) := (kb 1).trans (bCell (by repeat (first | with_reducible exact Below.refl _ _ | with_reducible refine bAlloc ?_ _ | with_reducible refine bDrew ?_ | with_reducible refine bDrewN ?_ _)) gb1); have gc2 : w3.cell? ⟨w.heap.size, 2, none⟩ = some (.string f.frm) := (kb 2).trans (bCell (by repeat (first | with_reducible exact Below.refl _ _ | with_reducible refine bAlloc ?_ _ | with_reducible refine bDrew ?_ | with_reducible refine bDrewN ?_ _)) gb2); have gc3 : w3.cell? ⟨w.heap.size, 3, none⟩ = some (.string f.to) := (kb 3).trans (bCell (by repeat (first | with_reducible exact Below.refl _ _ | with_reducible refine bAlloc ?_ _ | with_reducible refine bDrew ?_ | with_reducible refine bDrewN ?_ _)) gb3); have gc4 : w3.cell? ⟨w.heap.size, 4, none⟩ = some (.int .i64 f.pose.turn) := (kb 4).trans (bCell (by repeat (first | with_reducible exact Below.refl _ _ | with_reducible refine bAlloc ?_ _ | with_reducible refine bDrew ?_ | with_reducible refine bDrewN ?_ _)) gb4); have gc5 : w3.cell? ⟨w.heap.size, 5, none⟩ = some (.int .i64 f.pose.x) := (kb 5).trans (bCell (by repeat (first | with_reducible exact Below.refl _ _ | with_reducible refine bAlloc ?_ _ | with_reducible refine bDrew ?_ | with_reducible refine bDrewN ?_ _)) gb5); have gc6 : w3.cell? ⟨w.heap.size, 6, none⟩ = some (.int .i64 f.pose.y) := (kb 6).trans (bCell (by repeat (first | with_reducible exact Below.refl _ _ | with_reducible refine bAlloc ?_ _ | with_reducible refine bDrew ?_ | with_reducible refine bDrewN ?_ _)) gb6); have gc7 : w3.cell? ⟨w.heap.size, 7, none⟩ = some (.int .i64 f.weight) := (kb 7).trans (bCell (by repeat (first | with_reducible exact Below.refl _ _ | with_reducible refine bAlloc ?_ _ | with_reducible refine bDrew ?_ | with_reducible refine bDrewN ?_ _)) gb7); clear kb)) | (at_builtin; (refine wpList_append rfl (.tmp 37) (.tmp 39) 22 rfl wr.heap.size 38 8 80 i0 _ Tryz.underlying22 hii hq0 hq1 hq2 rfl (by omega) A2 (k) c2 _ rfl (ho2.alloc_ _) _ 1 1 [f.cells] rfl (Row.new1' _ _ f.cells 8 _ (by simp)) (by simp [Factor.cells]) (by simp [Factor.cells, Value.oneCell']) (by simp only [maxLen]; omega) (by omega) (by have h9 := hg2.size; simp at h9 ⊢; omega) ?_; intro A4 c4 w4 ho4 hg4 hat4; have Z4 : wr.heap.size ≤ w4.heap.size := (by have h8 := hg2.size; have h9 := hg4.size; simp at h8 h9; omega); have H4 : Below w.heap.size w w4 := bGrown (bAlloc (bGrown (show Below w.heap.size w _ from by repeat (first | with_reducible exact Hr | with_reducible refine bAlloc ?_ _ | with_reducible refine bDrew ?_ | with_reducible refine bDrewN ?_ _)) hg2 (fun q hq => by simp [ob] at hq; omega)) _) hg4 (fun q hq => by have h9 := (ho2.lt q hq).1; omega))) | (at_builtin; refine wpList_append rfl (.tmp 41) (.tmp 44) 22 rfl wr.heap.size 38 8 80 i0 _ Tryz.underlying22 hii hq0 hq1 hq2 rfl (by omega) A4 (k + 1) c4 _ rfl ho4 _ 0 _ [] rfl (Row.nil_ _ _ _) (by simp) (by simp) (by simp only [maxLen]; omega) (by omega) Z4 ?_; intro A5 c5 w5 ho5 hg5 hat5))
          have H5 := bGrown H4 hg5 (fun q hq => by have h9 := (ho4.lt q hq).1; omega)
          have hs1 : Own w5 w.heap.size 38 8 A1 k c1 (l.map Factor.cells) := same_kept ho1 (by repeat (first | with_reducible exact Below.refl _ _ | with_reducible refine bAlloc ?_ _ | with_reducible refine bDrew ?_ | with_reducible refine bDrewN ?_ _)) hg2 hg4 hg5 (fun q hq => by simp [ob] at hq; omega) (fun q hq => (ho2.lt q hq).1) (fun q hq => (ho4.lt q hq).1)
          have e6 : ((l.take k).map Factor.cells ++ [f.cells] ++ []) = (insF l f).map Factor.cells := by rw [insF, hat.out]; simp; first | omega | exact List.eq_nil_of_length_eq_zero L9 | (rw [List.eq_nil_of_length_eq_zero L9]; rfl)
          (try simp only [List.nil_append] at ho5)
          rw [e6] at ho5
          have hsm : smallFs (insF l f) := ins_small hs hfs
          generalize hb3 : isFL (insF l f) = b3
          have HB3 := Lib.hid hb3
          clear hb3
          go_wp2_with fail
          refine Calls.mono (spec_IsFactorList_c A5 _ c5 (insF l f) _ ?_ ho5.row hsm) ?_
          · omega
          rintro e w6 ⟨rfl, hk6⟩
          rw [HB3.out]
          have H6 := bTrans H5 hk6
          have ho6 := (ho5.below hk6).rebase (show w.heap.size ≤ wr.heap.size from Hr.size)
          cases b3
          · have E := Lib.hid (addF_bad HB3.out)
            have hs2 := hs1.below hk6
            go_wp2_with fail
            go_ret2
            rw [E.out]
            exact ⟨⟨A1, _, c1⟩, rfl, hs2.zero, Fresh.obl_ hs2, H6⟩
          · have E := Lib.hid (addF_yes HB1.out HB3.out)
            go_wp2_with fail
            go_ret2
            rw [E.out]
            exact ⟨⟨A5, _, c5⟩, rfl, ho6.zero, Fresh.obl_ ho6, H6⟩
end Go.Proofs.YtebcdjpddoaajaaGreatDoor
