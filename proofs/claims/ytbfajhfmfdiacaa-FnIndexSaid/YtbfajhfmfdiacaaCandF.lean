/- CandidatesOf: what the two of each answer. -/
import Derived.Test.YtbfajhfmfdiacaaCandS
namespace Go.Proofs.Ytbfajhfmfdiacaa
open Go.RowKit
set_option linter.unusedVariables false
set_option linter.unusedSimpArgs false
set_option maxHeartbeats 1600000
set_option maxRecDepth 100000
def candL (bits : Int) : List PlaceEntry → List Int → List Int
  | [], out => out
  | e :: r, out => candL bits r (if e.key = chunkV bits e.chunk then putI out e.place else out)
def candI (bits : Int) : List PlaceEntry → List Int → List Int
  | [], out => out
  | e :: r, out => candI bits r (if e.key = chunkV bits e.chunk ∧ e.place ∉ out then out ++ [e.place] else out)
theorem candL_mem {bits x : Int} : ∀ {es : List PlaceEntry} {out : List Int}, x ∈ candL bits es out ↔ x ∈ out ∨ ∃ e ∈ es, e.key = chunkV bits e.chunk ∧ e.place = x
  | [], out => by simp [candL]
  | e :: r, out => by
    rw [candL, candL_mem]
    by_cases h : e.key = chunkV bits e.chunk
    · rw [if_pos h, putI_mem]
      constructor
      · rintro ((rfl | h2) | ⟨f, hf, h3⟩)
        · exact .inr ⟨e, by simp, h, rfl⟩
        · exact .inl h2
        · exact .inr ⟨f, by simp [hf], h3⟩
      · rintro (h2 | ⟨f, hf, h3, rfl⟩)
        · exact .inl (.inr h2)
        · rcases List.mem_cons.1 hf with rfl | hf
          · exact .inl (.inl rfl)
          · exact .inr ⟨f, hf, h3, rfl⟩
    · rw [if_neg h]
      constructor
      · rintro (h2 | ⟨f, hf, h3⟩)
        · exact .inl h2
        · exact .inr ⟨f, by simp [hf], h3⟩
      · rintro (h2 | ⟨f, hf, h3, rfl⟩)
        · exact .inl h2
        · rcases List.mem_cons.1 hf with rfl | hf
          · exact absurd h3 h
          · exact .inr ⟨f, hf, h3, rfl⟩
theorem candI_mem {bits x : Int} : ∀ {es : List PlaceEntry} {out : List Int}, x ∈ candI bits es out ↔ x ∈ out ∨ ∃ e ∈ es, e.key = chunkV bits e.chunk ∧ e.place = x
  | [], out => by simp [candI]
  | e :: r, out => by
    rw [candI, candI_mem]
    by_cases h : e.key = chunkV bits e.chunk
    · by_cases hp : e.place ∈ out
      · rw [if_neg (fun h2 => h2.2 hp)]
        constructor
        · rintro (h2 | ⟨f, hf, h3⟩)
          · exact .inl h2
          · exact .inr ⟨f, by simp [hf], h3⟩
        · rintro (h2 | ⟨f, hf, h3, rfl⟩)
          · exact .inl h2
          · rcases List.mem_cons.1 hf with rfl | hf
            · exact .inl hp
            · exact .inr ⟨f, hf, h3, rfl⟩
      · rw [if_pos ⟨h, hp⟩, List.mem_append, List.mem_singleton]
        constructor
        · rintro ((h2 | rfl) | ⟨f, hf, h3⟩)
          · exact .inl h2
          · exact .inr ⟨e, by simp, h, rfl⟩
          · exact .inr ⟨f, by simp [hf], h3⟩
        · rintro (h2 | ⟨f, hf, h3, rfl⟩)
          · exact .inl (.inl h2)
          · rcases List.mem_cons.1 hf with rfl | hf
            · exact .inl (.inr rfl)
            · exact .inr ⟨f, hf, h3, rfl⟩
    · rw [if_neg (fun h2 => h h2.1)]
      constructor
      · rintro (h2 | ⟨f, hf, h3⟩)
        · exact .inl h2
        · exact .inr ⟨f, by simp [hf], h3⟩
      · rintro (h2 | ⟨f, hf, h3, rfl⟩)
        · exact .inl h2
        · rcases List.mem_cons.1 hf with rfl | hf
          · exact absurd h3 h
          · exact .inr ⟨f, hf, h3, rfl⟩
theorem candL_asc {bits : Int} : ∀ {es : List PlaceEntry} {out : List Int}, AscI out → AscI (candL bits es out)
  | [], out, h => h
  | e :: r, out, h => by
    rw [candL]
    refine candL_asc ?_
    split
    · exact putI_asc h
    · exact h
theorem candI_nodup {bits : Int} : ∀ {es : List PlaceEntry} {out : List Int}, out.Nodup → (candI bits es out).Nodup
  | [], out, h => h
  | e :: r, out, h => by
    rw [candI]
    refine candI_nodup ?_
    split
    · rename_i h2
      exact List.nodup_append.2 ⟨h, by simp, fun a ha b hb e => by simp at hb; subst hb; subst e; exact h2.2 ha⟩
    · exact h
theorem candL_len {bits : Int} : ∀ {es : List PlaceEntry} {out : List Int}, (candL bits es out).length ≤ es.length + out.length
  | [], out => by simp [candL]
  | e :: r, out => by
    rw [candL]
    refine Nat.le_trans candL_len ?_
    split
    · have := putI_len (l := out) (n := e.place); simp only [List.length_cons]; omega
    · simp only [List.length_cons]; omega
theorem srtI_asc {l : List Int} (h : l.Nodup) : AscI (srtI l) := by
  have h1 : (srtI l).Pairwise (fun a b => decide (a ≤ b) = true) := List.pairwise_mergeSort (le := fun x y => decide (x ≤ y)) (fun a b c h1 h2 => by simp at *; omega) (fun a b => by simp; omega) l
  have h2 : (srtI l).Nodup := (List.mergeSort_perm l _).nodup_iff.2 h
  unfold AscI
  refine (h1.and h2).imp ?_
  intro a b ⟨h3, h4⟩
  simp at h3
  omega
theorem srt_cand (bits : Int) (es : List PlaceEntry) : srtI (candI bits es []) = candL bits es [] := by
  refine eq_of_ascI (srtI_asc (candI_nodup (by simp))) (candL_asc List.Pairwise.nil) fun x => ?_
  rw [candL_mem, ← candI_mem]
  exact (List.mergeSort_perm _ _).mem_iff
def candV (x : PIdx) (bits : Int) : List Int := if isIdx x && inR bits 0 1073741823 then candL bits x.entries [] else []
theorem candV_no1 {x : PIdx} {bits : Int} (h : isIdx x = false) : candV x bits = [] := by simp [candV, h]
theorem candV_no2 {x : PIdx} {bits : Int} (h : inR bits 0 1073741823 = false) : candV x bits = [] := by simp [candV, h]
theorem candV_yes {x : PIdx} {bits : Int} (h : isIdx x = true) (h2 : inR bits 0 1073741823 = true) : candV x bits = candL bits x.entries [] := by simp [candV, h, h2]
theorem fewI_cand {x : PIdx} (bits : Int) (h : fewX x) : fewI (candV x bits) := by
  have h1 := h.2
  unfold fewL at h1
  unfold candV fewI
  split
  · exact Nat.le_trans candL_len (by simpa using h1)
  · simp
def CLInv (f : List PlaceEntry → List Int → List Int) (es : List PlaceEntry) (out : List Int) (k : Nat) : Prop := f es [] = f (es.drop k) out
theorem impl_CandidatesOf_k (v : XV) (x : PIdx) (bits : Int) (w : World) (hm : bulkX x ≤ 1048576) (hok : okX x) (hr : OwX w v x) (hwf : (Lit.int .i64 bits).wf = true) :
    Calls Try.prog 39 #[vPIdx v, .int .i64 bits] w fun e w' => ∃ v' : Sv, e = .returned (.slice v'.A v'.n v'.c) ∧ OwI w' v' (candV x bits) ∧ Fresh w.heap.size w' (fpI v') ∧ Below w.heap.size w w' := by
  obtain ⟨i0, hii, hq0, hq1, hq2⟩ := info_parts info_Int
  have hrE : Hid (RowE w v.e.A v.e.n x.entries) := hr.e.rd
  have hl : Hid (x.entries.length = v.e.n) := hr.e.rd.len
  have hn : v.e.n ≤ 1048576 := by have h1 := hl.out; unfold bulkX bulkL at hm; omega
  generalize hb1 : isIdx x = b1
  generalize hb2 : inR bits 0 1073741823 = b2
  have HB1 := Lib.hid hb1
  have HB2 := Lib.hid hb2
  clear hb1 hb2 hwf
  cases b2
  · have hfin := Lib.hid (candV_no2 (x := x) HB2.out)
    go_enter Try.func39, Try.ntmps39
    go_wp2_with (go_at_call 40; refine (areBits_c _ _).mono ?_; rw [HB2.out]; rintro e w2 ⟨rfl, rfl⟩)
    go_ret
    exact ⟨⟨none, 0, 0⟩, rfl, by rw [hfin.out]; exact Own.nil_ _ _ _ _, Fresh.nil _ _, by repeat (first | with_reducible exact Below.refl _ _ | with_reducible refine bAlloc ?_ _)⟩
  go_enter Try.func39, Try.ntmps39
  go_wp2_with (go_at_call 40; refine (areBits_c _ _).mono ?_; rw [HB2.out]; rintro e w2 ⟨rfl, rfl⟩)
  refine Calls.mono (impl_IsIndex_k v x _ hm hok (OwX.below hr (bAlloc (Below.refl _ _) _))) ?_
  rintro e w1 ⟨he, hb1⟩
  rw [HB1.out] at he
  subst he
  have H := bTrans (bAlloc (Below.refl w.heap.size w) _) hb1
  have hz1 : w.heap.size < w1.heap.size := by have := hb1.size; (try simp at this); omega
  have k1 := bBox hb1 w.heap.size (by simp; try omega)
  cases b1
  · have hfin := Lib.hid (candV_no1 (bits := bits) HB1.out)
    go_wp2_with fail
    go_ret
    exact ⟨⟨none, 0, 0⟩, rfl, by rw [hfin.out]; exact Own.nil_ _ _ _ _, Fresh.nil _ _, H⟩
  have hfin := Lib.hid (candV_yes HB1.out HB2.out)
  have hR1 : Hid (RowE w1 v.e.A v.e.n x.entries) := Row.below hrE.out H
  clear hm hok hr
  go_wp2_with fail
  go_loopw [20, 5] (fun i o wr => ∃ (k g m c : Nat) (out : List Int), k ≤ v.e.n ∧ i = .int .i64 k ∧ o = .slice (some ⟨g, 0, none⟩) m c ∧ m ≤ k ∧ Own wr w1.heap.size 3 1 (some ⟨g, 0, none⟩) m c (out.map intCells) ∧ CLInv (candI bits) x.entries out k ∧ Below w1.heap.size w1 wr) (fun i _ _ => v.e.n - (intOf i).toNat)
  case atStart => exact ⟨0, w1.heap.size, 0, 0, [], by omega, rfl, rfl, by omega, Own.made0 w1 _ 1 (Nat.le_refl _), rfl, bAlloc (Below.refl _ _) _⟩
  case round =>
    obtain ⟨k, g, m, c, out, hk, rfl, rfl, hmk, hown, hi, hb⟩ := hrel
    have hgo := (hown.lt g rfl).1
    have hzb := hb.size
    by_cases hlt : k < v.e.n
    · obtain ⟨f, ga, off, hf, hA, g0, g1, g2⟩ := RowE.at_ (Row.below hR1.out hb) hlt
      have hst : candI bits x.entries [] = candI bits (x.entries.drop (k + 1)) (if f.key = chunkV bits f.chunk ∧ f.place ∉ out then out ++ [f.place] else out) := by
        unfold CLInv at hi; rw [hi, drop_at hf]; rfl
      have HS := Lib.hid hst
      clear hst hi
      have h0 : (0 : Int) ≤ (k : Int) := by omega
      have h1 : (k : Int) < (v.e.n : Int) := by omega
      have hC : ∀ W, Calls Try.prog 34 #[.int .i64 bits, .int .i64 f.chunk] W fun e w' => e = rInt (chunkV bits f.chunk) ∧ ∃ m, w' = W.drewN m := fun W => (impl_ChunkOf_c bits f.chunk W).mono (fun _ _ h => ⟨h.1, 0, h.2.symm⟩)
      generalize hV : decide (f.place ∈ out) = b3
      have HV := Lib.hid hV
      clear hV
      have hC2 : ∀ W, RowI W (some ⟨g, 0, none⟩) m out → Calls Try.prog 59 #[.slice (some ⟨g, 0, none⟩) m c, .int .i64 f.place] W fun e w' => e = rBool b3 ∧ ∃ m, w' = W.drewN m := fun W hW => (hasInt_c _ m c out f.place W (by omega) hW).mono (fun _ _ h => ⟨h.1.trans (congrArg rBool HV.out), 0, h.2⟩)
      have hRo : Hid (RowI wr (some ⟨g, 0, none⟩) m out) := Own.row hown
      generalize chunkV bits f.chunk = ck at hC HS
      obtain ⟨⟨pA, pn, pc⟩, ⟨eA, en, ec⟩⟩ := v
      simp only at hA
      subst hA
      by_cases hkc : f.key = ck
      · have hkd : decide (f.key = ck) = true := decide_eq_true hkc
        have hke : (f.key == ck) = true := by simpa using hkc
        cases b3
        · have hni : f.place ∉ out := of_decide_eq_false HV.out
          have HS2 : Hid (CLInv (candI bits) x.entries (out ++ [f.place]) (k + 1)) := by have h9 := HS.out; rw [if_pos ⟨hkc, hni⟩] at h9; exact h9
          clear hni
          go_wp2_with fail
          go_quiet (first | (go_at_call 34; refine Calls.quiet_of (hC _)) | (go_at_call 59; refine Calls.quiet_of (hC2 _ ?_); exact Row.below hRo.out (by repeat (first | with_reducible exact Below.refl _ _ | with_reducible refine bAlloc ?_ _ | with_reducible refine bDrew ?_ | with_reducible refine bDrewN ?_ _))))
          go_wp2_with (at_builtin; refine wpList_append rfl (.tmp 38) (.tmp 41) 33 rfl w1.heap.size 3 1 8 i0 _ Try.underlying33 hii hq0 hq1 hq2 rfl (by omega) (some ⟨g, 0, none⟩) m c _ rfl (hown.below (by repeat (first | with_reducible exact Below.refl _ _ | with_reducible refine bAlloc ?_ _ | with_reducible refine bDrew ?_ | with_reducible refine bDrewN ?_ _))) _ 1 1 [[.int .i64 f.place]] rfl (Row.new1' _ _ [.int .i64 f.place] 1 _ (by simp)) (by simp) (by simp [Value.oneCell']) (by simp only [maxLen]; omega) (by omega) (by simp; omega) ?_; intro A5 c5 w5 ho5 hg5 hat5; have HB5 : Below w1.heap.size w1 w5 := bGrown (by repeat (first | with_reducible exact hb | with_reducible refine bAlloc ?_ _ | with_reducible refine bDrew ?_ | with_reducible refine bDrewN ?_ _)) hg5 (fun q hq => by simp [ob] at hq; omega))
          have ho6 : Own w5 w1.heap.size 3 1 A5 (m + 1) c5 ((out ++ [f.place]).map intCells) := by rw [List.map_append]; exact ho5
          go_roundw
          case rel =>
            rcases ho6.cases with ⟨_, h5, _⟩ | ⟨g5, rfl, _⟩
            · omega
            · exact ⟨k + 1, g5, m + 1, c5, out ++ [f.place], by omega, by go_num, rfl, by omega, ho6, HS2.out, HB5⟩
          case measure => simp [intOf]; omega
        · have hin : f.place ∈ out := of_decide_eq_true HV.out
          have HS2 : Hid (CLInv (candI bits) x.entries out (k + 1)) := by have h9 := HS.out; rw [if_neg (fun h => h.2 hin)] at h9; exact h9
          clear hin
          go_wp2_with fail
          go_quiet (first | (go_at_call 34; refine Calls.quiet_of (hC _)) | (go_at_call 59; refine Calls.quiet_of (hC2 _ ?_); exact Row.below hRo.out (by repeat (first | with_reducible exact Below.refl _ _ | with_reducible refine bAlloc ?_ _ | with_reducible refine bDrew ?_ | with_reducible refine bDrewN ?_ _))))
          go_wp2_with fail
          go_roundw
          case rel => exact ⟨k + 1, g, m, c, out, by omega, by go_num, rfl, by omega, hown.below (by repeat (first | with_reducible exact Below.refl _ _ | with_reducible refine bAlloc ?_ _ | with_reducible refine bDrew ?_ | with_reducible refine bDrewN ?_ _)), HS2.out, by repeat (first | with_reducible exact hb | with_reducible refine bAlloc ?_ _ | with_reducible refine bDrew ?_ | with_reducible refine bDrewN ?_ _)⟩
          case measure => simp [intOf]; omega
      · have hkd : decide (f.key = ck) = false := decide_eq_false hkc
        have hke : (f.key == ck) = false := by simpa using hkc
        have HS2 : Hid (CLInv (candI bits) x.entries out (k + 1)) := by have h9 := HS.out; rw [if_neg (fun h => hkc h.1)] at h9; exact h9
        go_wp2_with fail
        go_quiet (first | (go_at_call 34; refine Calls.quiet_of (hC _)))
        go_wp2_with fail
        go_roundw
        case rel => exact ⟨k + 1, g, m, c, out, by omega, by go_num, rfl, by omega, hown.below (by repeat (first | with_reducible exact Below.refl _ _ | with_reducible refine bAlloc ?_ _ | with_reducible refine bDrew ?_ | with_reducible refine bDrewN ?_ _)), HS2.out, by repeat (first | with_reducible exact hb | with_reducible refine bAlloc ?_ _ | with_reducible refine bDrew ?_ | with_reducible refine bDrewN ?_ _)⟩
        case measure => simp [intOf]; omega
    · have hend : candI bits x.entries [] = out := by unfold CLInv at hi; rw [hi, drop_end hl hlt]; rfl
      have HE : Hid (candV x bits = srtI out) := by rw [Hid, hfin.out, ← srt_cand, hend]
      clear hend hi
      go_wp2_with fail
      refine Calls.mono (sortInt_k hown (by omega)) ?_
      rintro e w5 ⟨rfl, ho5, hu5⟩
      go_wp2_with fail
      go_ret
      exact ⟨⟨some ⟨g, 0, none⟩, m, c⟩, rfl, by rw [HE.out]; exact ho5.zero, (Fresh.obl_ ho5).rebase (by omega), bTrans H (bUpd hb hu5 (fun q hq => by simp at hq; omega))⟩
end Go.Proofs.Ytbfajhfmfdiacaa
