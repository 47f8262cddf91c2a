/- Texts of this proof, one behind the other: PsApp, WAppendEntry. -/
import Derived.Test.YtebcdjpddoaajaaDoorGr14
import Derived.Test.YtebcdjpddoaajaaDoorGr43
/- AppendEntry of both. -/
namespace Go.Proofs.YtebcdjpddoaajaaDoor
open Go.RowKit
set_option linter.unusedVariables false
set_option linter.unusedSimpArgs false
set_option maxHeartbeats 4000000
set_option maxRecDepth 100000
theorem rdj_len : ∀ (k : Nat) (r : List UInt8) (p : Int), (rdj k r p).2.1 ≤ r.length
  | 0, _, _ => Nat.zero_le _
  | k + 1, r, p => by
    rw [rdj]
    split
    · exact Nat.zero_le _
    · rename_i e he
      obtain ⟨_, _, t, ht⟩ := nxt_text he
      have := rdj_len k (r.drop (entT e p).size) (entSum e p)
      have h1 := congrArg List.length ht
      have h2 := bsize (entT e p)
      simp only [List.length_append] at h1
      simp only [List.length_drop] at this ⊢
      omega
theorem rdj_in : ∀ (k : Nat) (r : List UInt8) (p : Int), inR p 0 65520 = true → inR (rdj k r p).2.2 0 65520 = true
  | 0, _, _, h => h
  | k + 1, r, p, h => by
    rw [rdj]
    split
    · exact h
    · rename_i e he
      exact rdj_in k _ _ (entSum_in e p)
theorem rdN_le (s : ByteArray) : rdN s ≤ s.size := by have := rdj_len 60 s.data.toList 1; rw [bsize] at this; exact this
theorem rdQ_in (s : ByteArray) : inR (rdQ s) 0 65520 = true := rdj_in 60 _ 1 (by decide)
theorem rdE_len (s : ByteArray) : (rdE s).length ≤ 60 := rdj_few 60 _ 1
/-- the journal with one more line -/
noncomputable def apE (s : ByteArray) (e : Entry) : ByteArray × Bool := if vldEntry e = true ∧ (rdE s).length ≠ 60 then (s.extract 0 (rdN s) ++ entT e (rdQ s), true) else (s, false)
theorem ent_ne {e : Entry} {p : Int} : (entT e p).toList.isEmpty = false := by
  rw [ByteArray.toList_eq]; unfold entT; simp
theorem fmtEnt_ok {e : Entry} {p : Int} (h : vldEntry e = true) (hp : inR p 0 65520 = true) : fmtEnt e p = (entT e p, entSum e p) := by unfold fmtEnt; rw [h, hp]; rfl
theorem fmtEnt_no {e : Entry} {p : Int} (h : vldEntry e = false) : fmtEnt e p = (⟨#[]⟩, 0) := by unfold fmtEnt; rw [h]; rfl
theorem entT_sz {e : Entry} {p : Int} (h : vldEntry e = true) (hp : inR p 0 65520 = true) : (entT e p).size ≤ 400 := by
  have hf : ∀ f : Factor, vldFactor f = true → (facL f).length ≤ 116 := fun f hv => by
    have h1 := fmtFac_size f
    have h2 := bsize (fmtFac f)
    rw [fmtFac_data hv] at h2
    omega
  have h2 := bsize (entT e p)
  have h3 := entSum_bound e p
  have h4 := Lib.itoa_length_le (entSum e p) (by omega) (by omega)
  rw [← h2]
  unfold entT
  rcases ent_kinds h with ⟨f, _, hv, he⟩ | ⟨n, _, hn, he⟩
  · have := hf f hv
    rw [he]; simp [addL]; omega
  · have := Lib.itoa_length_le n (by omega) (by omega)
    rw [he]; simp [remL]; omega
theorem RjPost.out {w w' : World} {s : ByteArray} {e : Ending} (h : RjPost w s e w') : ∃ v : Sv, e = .returned (.tuple #[.slice v.A v.n v.c, .int .i64 (rdN s : Int), .int .i64 (rdQ s)]) ∧ (rdE s).length = v.n ∧ Below w.heap.size w w' := by
  obtain ⟨v, h1, h2, _, h3⟩ := h
  refine ⟨v, h1, ?_, h3⟩
  have := h2.rd.1
  simpa [rdE] using this
theorem ap_no {s : ByteArray} {e : Entry} (h : ¬ (vldEntry e = true ∧ (rdE s).length ≠ 60)) : apE s e = (s, false) := by unfold apE; rw [if_neg h]
theorem ap_yes {s : ByteArray} {e : Entry} (h : vldEntry e = true) (h2 : (rdE s).length ≠ 60) : apE s e = (s.extract 0 (rdN s) ++ entT e (rdQ s), true) := by unfold apE; rw [if_pos ⟨h, h2⟩]
theorem ext_sz (s : ByteArray) (a b : Nat) : (s.extract a b).size ≤ s.size := by rw [ByteArray.size_extract]; omega
theorem impl_AppendEntry_c (s : ByteArray) (rm : Bool) (eid id kind : Int) (fr to : ByteArray) (t x y wt : Int) (w : World) (hs : s.size ≤ 1048576) (hwe : -9223372036854775808 ≤ eid ∧ eid ≤ 9223372036854775807) (hf : fr.size ≤ 1048576) (ht : to.size ≤ 1048576) (hT : TabJ w) :
    Calls Tryd.prog 36 #[.string s, vEntry rm eid id kind fr to t x y wt] w fun e w' => e = .returned (.tuple #[.string (apE s ⟨rm, eid, ⟨id, kind, fr, to, ⟨t, x, y⟩, wt⟩⟩).1, .bool (apE s ⟨rm, eid, ⟨id, kind, fr, to, ⟨t, x, y⟩, wt⟩⟩).2]) ∧ Below w.heap.size w w' := by
  have HT := Lib.hid hT
  clear hT
  have bx0 := Bk.new w [.bool rm, .int .i64 eid, .int .i64 id, .int .i64 kind, .string fr, .string to, .int .i64 t, .int .i64 x, .int .i64 y, .int .i64 wt] 62 _ rfl
  have B0 : Below w.heap.size w (w.alloc (.cells #[.bool rm, .int .i64 eid, .int .i64 id, .int .i64 kind, .string fr, .string to, .int .i64 t, .int .i64 x, .int .i64 y, .int .i64 wt] 62)) := bAlloc (Below.refl _ _) _
  go_enter Tryd.func36, Tryd.ntmps36
  go_wp2_with fail
  refine Calls.mono (impl_readJournal_c s _ hs (HT.out.below B0)) ?_
  rintro e w1 hpost
  obtain ⟨v, rfl, hl, hb1⟩ := hpost.out
  have bx1 := bx0.below hb1
  have B1 := bTrans B0 hb1
  have hqi := rdQ_in s
  have hn := rdN_le s
  have hle := rdE_len s
  have HNO := Lib.hid (fun h => ap_no (s := s) (e := ⟨rm, eid, ⟨id, kind, fr, to, ⟨t, x, y⟩, wt⟩⟩) h)
  have HYES := Lib.hid (fun h h2 => ap_yes (s := s) (e := ⟨rm, eid, ⟨id, kind, fr, to, ⟨t, x, y⟩, wt⟩⟩) h h2)
  obtain ⟨n, hne⟩ : ∃ n, n = rdN s := ⟨_, rfl⟩
  obtain ⟨q, hqe⟩ : ∃ q, q = rdQ s := ⟨_, rfl⟩
  rw [← hne] at HYES hn ⊢
  rw [← hqe] at HYES hqi ⊢
  have HT1 := Lib.hid (HT.out.below B1)
  have HQ := Lib.hid hqi
  obtain ⟨A, m, c⟩ := v
  simp only at hl
  rw [hl] at HNO HYES hle
  have r0 := bx1.bx.cells 0 _ rfl; have r1 := bx1.bx.cells 1 _ rfl; have r2 := bx1.bx.cells 2 _ rfl; have r3 := bx1.bx.cells 3 _ rfl; have r4 := bx1.bx.cells 4 _ rfl; have r5 := bx1.bx.cells 5 _ rfl; have r6 := bx1.bx.cells 6 _ rfl; have r7 := bx1.bx.cells 7 _ rfl; have r8 := bx1.bx.cells 8 _ rfl; have r9 := bx1.bx.cells 9 _ rfl
  clear hpost bx0 B0 hb1 hne hqe hqi hl HT
  cases hv : vldEntry ⟨rm, eid, ⟨id, kind, fr, to, ⟨t, x, y⟩, wt⟩⟩ with
  | false =>
    have HE := Lib.hid (HNO.out (fun h => by rw [hv] at h; cases h.1))
    have HV := Lib.hid hv
    clear hv HNO HYES
    go_wp2_with (go_at_call 76; refine (impl_IsValidEntry_c rm eid id kind fr to t x y wt _ hf ht).mono ?_; rw [HV.out]; rintro e w2 ⟨rfl, hb2⟩; have bx2 := bx1.below hb2; have B2 := bTrans B1 hb2; have s0 := bx2.bx.cells 0 _ rfl; have s1 := bx2.bx.cells 1 _ rfl; have s2 := bx2.bx.cells 2 _ rfl; have s3 := bx2.bx.cells 3 _ rfl; have s4 := bx2.bx.cells 4 _ rfl; have s5 := bx2.bx.cells 5 _ rfl; have s6 := bx2.bx.cells 6 _ rfl; have s7 := bx2.bx.cells 7 _ rfl; have s8 := bx2.bx.cells 8 _ rfl; have s9 := bx2.bx.cells 9 _ rfl)
    refine bodyPost_ret (v := .tuple #[.string s, .bool false]) (by simp [*, results, Tryd.results36, go_sem]) rfl ⟨by rw [HE.out], B2⟩
  | true =>
    have hfe := fmtEnt_ok hv HQ.out
    have hsz := entT_sz hv HQ.out
    have hne := ent_ne (e := ⟨rm, eid, ⟨id, kind, fr, to, ⟨t, x, y⟩, wt⟩⟩) (p := q)
    have HF := Lib.hid hfe
    clear hfe
    by_cases h60 : m = 60
    · have HE := Lib.hid (HNO.out (fun h => h.2 h60))
      have h6 : ((m : Int) == 60) = true := by rw [h60]; rfl
      have h6i : (m : Int) = 60 := by omega
      have HV := Lib.hid hv
      clear hv HNO HYES h60 hsz
      clear hne
      go_wp2_with (go_at_call 76; refine (impl_IsValidEntry_c rm eid id kind fr to t x y wt _ hf ht).mono ?_; rw [HV.out]; rintro e w2 ⟨rfl, hb2⟩; have bx2 := bx1.below hb2; have B2 := bTrans B1 hb2; have s0 := bx2.bx.cells 0 _ rfl; have s1 := bx2.bx.cells 1 _ rfl; have s2 := bx2.bx.cells 2 _ rfl; have s3 := bx2.bx.cells 3 _ rfl; have s4 := bx2.bx.cells 4 _ rfl; have s5 := bx2.bx.cells 5 _ rfl; have s6 := bx2.bx.cells 6 _ rfl; have s7 := bx2.bx.cells 7 _ rfl; have s8 := bx2.bx.cells 8 _ rfl; have s9 := bx2.bx.cells 9 _ rfl)
      refine bodyPost_ret (v := .tuple #[.string s, .bool false]) (by simp [*, results, Tryd.results36, go_sem]) rfl ⟨by rw [HE.out], B2⟩
    · have HE := Lib.hid (HYES.out hv h60)
      have h6 : ((m : Int) == 60) = false := by simp only [beq_eq_false_iff_ne]; omega
      have h6i : ¬ (m : Int) = 60 := by omega
      have HV := Lib.hid hv
      clear hv HNO HYES h60
      obtain ⟨line, hline⟩ : ∃ l, l = entT ⟨rm, eid, ⟨id, kind, fr, to, ⟨t, x, y⟩, wt⟩⟩ q := ⟨_, rfl⟩
      rw [← hline] at hne hsz HF HE
      clear hline
      obtain ⟨u, e0, z0, c0⟩ := cat (s.extract 0 n) line 1048576 400 (Nat.le_trans (ext_sz s 0 n) hs) hsz (by omega)
      have hn0 : (0 : Int) ≤ (n : Int) := by omega
      have hn1 : (n : Int) ≤ (s.size : Int) := by omega
      clear hne
      go_wp2_with (first | (go_at_call 76; refine (impl_IsValidEntry_c rm eid id kind fr to t x y wt _ hf ht).mono ?_; rw [HV.out]; rintro e w2 ⟨rfl, hb2⟩; have bx2 := bx1.below hb2; have B2 := bTrans B1 hb2; have s0 := bx2.bx.cells 0 _ rfl; have s1 := bx2.bx.cells 1 _ rfl; have s2 := bx2.bx.cells 2 _ rfl; have s3 := bx2.bx.cells 3 _ rfl; have s4 := bx2.bx.cells 4 _ rfl; have s5 := bx2.bx.cells 5 _ rfl; have s6 := bx2.bx.cells 6 _ rfl; have s7 := bx2.bx.cells 7 _ rfl; have s8 := bx2.bx.cells 8 _ rfl; have s9 := bx2.bx.cells 9 _ rfl) | (go_at_call 66; refine (impl_FormatEntry_c rm eid id kind fr to t x y wt q _ hwe hf ht (HT1.out.below hb2).1.tab).mono ?_; rw [HF.out]; rintro e w3 ⟨rfl, hb3⟩; have B3 := bTrans B2 hb3))
      refine bodyPost_ret (v := .tuple #[.string u, .bool true]) (by simp [*, results, Tryd.results36, go_sem]) rfl ⟨by rw [HE.out, e0.out], B3⟩
theorem spec_AppendEntry_c (s : ByteArray) (rm : Bool) (eid id kind : Int) (fr to : ByteArray) (t x y wt : Int) (w : World) (hs : s.size ≤ 1048576) (hwe : -9223372036854775808 ≤ eid ∧ eid ≤ 9223372036854775807) (hf : fr.size ≤ 1048576) (ht : to.size ≤ 1048576) :
    Calls Tryd.prog 39 #[.string s, vEntry rm eid id kind fr to t x y wt] w fun e w' => e = .returned (.tuple #[.string (apE s ⟨rm, eid, ⟨id, kind, fr, to, ⟨t, x, y⟩, wt⟩⟩).1, .bool (apE s ⟨rm, eid, ⟨id, kind, fr, to, ⟨t, x, y⟩, wt⟩⟩).2]) ∧ Below w.heap.size w w' := by
  have bx0 := Bk.new w [.bool rm, .int .i64 eid, .int .i64 id, .int .i64 kind, .string fr, .string to, .int .i64 t, .int .i64 x, .int .i64 y, .int .i64 wt] 62 _ rfl
  have B0 : Below w.heap.size w (w.alloc (.cells #[.bool rm, .int .i64 eid, .int .i64 id, .int .i64 kind, .string fr, .string to, .int .i64 t, .int .i64 x, .int .i64 y, .int .i64 wt] 62)) := bAlloc (Below.refl _ _) _
  go_enter Tryd.func39, Tryd.ntmps39
  go_wp2_with fail
  refine Calls.mono (spec_l27Read_c s _ hs) ?_
  rintro e w1 hpost
  obtain ⟨v, rfl, hl, hb1⟩ := hpost.out
  have bx1 := bx0.below hb1
  have B1 := bTrans B0 hb1
  have hqi := rdQ_in s
  have hn := rdN_le s
  have hle := rdE_len s
  have HNO := Lib.hid (fun h => ap_no (s := s) (e := ⟨rm, eid, ⟨id, kind, fr, to, ⟨t, x, y⟩, wt⟩⟩) h)
  have HYES := Lib.hid (fun h h2 => ap_yes (s := s) (e := ⟨rm, eid, ⟨id, kind, fr, to, ⟨t, x, y⟩, wt⟩⟩) h h2)
  obtain ⟨n, hne⟩ : ∃ n, n = rdN s := ⟨_, rfl⟩
  obtain ⟨q, hqe⟩ : ∃ q, q = rdQ s := ⟨_, rfl⟩
  rw [← hne] at HYES hn ⊢
  rw [← hqe] at HYES hqi ⊢
  have HQ := Lib.hid hqi
  obtain ⟨A, m, c⟩ := v
  simp only at hl
  rw [hl] at HNO HYES hle
  have r0 := bx1.bx.cells 0 _ rfl; have r1 := bx1.bx.cells 1 _ rfl; have r2 := bx1.bx.cells 2 _ rfl; have r3 := bx1.bx.cells 3 _ rfl; have r4 := bx1.bx.cells 4 _ rfl; have r5 := bx1.bx.cells 5 _ rfl; have r6 := bx1.bx.cells 6 _ rfl; have r7 := bx1.bx.cells 7 _ rfl; have r8 := bx1.bx.cells 8 _ rfl; have r9 := bx1.bx.cells 9 _ rfl
  clear hpost bx0 B0 hb1 hne hqe hqi hl
  cases hv : vldEntry ⟨rm, eid, ⟨id, kind, fr, to, ⟨t, x, y⟩, wt⟩⟩ with
  | false =>
    have HE := Lib.hid (HNO.out (fun h => by rw [hv] at h; cases h.1))
    have HV := Lib.hid (fmtEnt_no (p := q) hv)
    clear hv HNO HYES
    go_wp2_with (go_at_call 79; refine (spec_FormatEntry_c rm eid id kind fr to t x y wt q _ hwe hf ht).mono ?_; rw [HV.out]; rintro e w2 ⟨rfl, hb2⟩; have B2 := bTrans B1 hb2)
    refine bodyPost_ret (v := .tuple #[.string s, .bool false]) (by simp [*, results, Tryd.results39, go_sem]) rfl ⟨by rw [HE.out], B2⟩
  | true =>
    have hfe := fmtEnt_ok hv HQ.out
    have hsz := entT_sz hv HQ.out
    have hne := ent_ne (e := ⟨rm, eid, ⟨id, kind, fr, to, ⟨t, x, y⟩, wt⟩⟩) (p := q)
    have HF := Lib.hid hfe
    clear hfe
    by_cases h60 : m = 60
    · have HE := Lib.hid (HNO.out (fun h => h.2 h60))
      have h6 : ((m : Int) == 60) = true := by rw [h60]; rfl
      have h6i : (m : Int) = 60 := by omega
      have HV := Lib.hid hv
      clear hv HNO HYES h60 hsz
      obtain ⟨line, hline⟩ : ∃ l, l = entT ⟨rm, eid, ⟨id, kind, fr, to, ⟨t, x, y⟩, wt⟩⟩ q := ⟨_, rfl⟩
      rw [← hline] at hne HF
      clear hline
      go_wp2_with (go_at_call 79; refine (spec_FormatEntry_c rm eid id kind fr to t x y wt q _ hwe hf ht).mono ?_; rw [HF.out]; rintro e w2 ⟨rfl, hb2⟩; have B2 := bTrans B1 hb2)
      refine bodyPost_ret (v := .tuple #[.string s, .bool false]) (by simp [*, results, Tryd.results39, go_sem]) rfl ⟨by rw [HE.out], B2⟩
    · have HE := Lib.hid (HYES.out hv h60)
      have h6 : ((m : Int) == 60) = false := by simp only [beq_eq_false_iff_ne]; omega
      have h6i : ¬ (m : Int) = 60 := by omega
      have HV := Lib.hid hv
      clear hv HNO HYES h60
      obtain ⟨line, hline⟩ : ∃ l, l = entT ⟨rm, eid, ⟨id, kind, fr, to, ⟨t, x, y⟩, wt⟩⟩ q := ⟨_, rfl⟩
      rw [← hline] at hne hsz HF HE
      clear hline
      obtain ⟨u, e0, z0, c0⟩ := cat (s.extract 0 n) line 1048576 400 (Nat.le_trans (ext_sz s 0 n) hs) hsz (by omega)
      have hn0 : (0 : Int) ≤ (n : Int) := by omega
      have hn1 : (n : Int) ≤ (s.size : Int) := by omega
      go_wp2_with (go_at_call 79; refine (spec_FormatEntry_c rm eid id kind fr to t x y wt q _ hwe hf ht).mono ?_; rw [HF.out]; rintro e w2 ⟨rfl, hb2⟩; have B2 := bTrans B1 hb2)
      refine bodyPost_ret (v := .tuple #[.string u, .bool true]) (by simp [*, results, Tryd.results39, go_sem]) rfl ⟨by rw [HE.out, e0.out], B2⟩
end Go.Proofs.YtebcdjpddoaajaaDoor

/- The walk of the law on AppendEntry. -/
namespace Go.Proofs.YtebcdjpddoaajaaDoor
open Go.RowKit
set_option linter.unusedVariables false
set_option linter.unusedSimpArgs false
set_option maxHeartbeats 4000000
set_option maxRecDepth 100000
theorem w_FnExactAppendEntry (s : ByteArray) (wf0 : s.size ≤ maxLen) (f : Entry) (hid : wfI f.id) (hok : f.factor.ok) (w : World) (hT : TabJ w) :
    Calls Tryd.prog 8 #[.string s, .agg (.bool f.remove :: .int .i64 f.id :: f.factor.cells).toArray] w fun e w' => e = rBool true ∧ Below w.heap.size w w' := by
  obtain ⟨rm, eid, id, kind, fr, to, ⟨t, x, y⟩, wt⟩ := f
  obtain ⟨h1, h2, _⟩ := hok
  have hwe := bounds_i64 hid
  show Calls Tryd.prog 8 #[.string s, vEntry rm eid id kind fr to t x y wt] w _
  dsimp only at h1 h2 hwe
  generalize hv : apE s ⟨rm, eid, ⟨id, kind, fr, to, ⟨t, x, y⟩, wt⟩⟩ = b
  obtain ⟨u, ok⟩ := b
  have Hv := Lib.hid hv
  have HT := Lib.hid hT
  have HE := Lib.hid hwe
  clear hv hT hid hwe
  by_cases hl : s.size ≤ 1048576
  · go_enter Tryd.func8, Tryd.ntmps8
    go_wp2_with (first
      | (go_at_call 38; refine (szEntry_c _ _ _ _ _ _ _ _ _ _ _ _ (by omega) (by omega) h1 h2).mono ?_; rintro e w1 ⟨⟨r, rfl, hp⟩, hb1⟩; have k1 := bBox hb1 w.heap.size (by simp); have hz1 := bsz1 hb1; have B1 := bTrans (bAlloc (Below.refl w.heap.size w) _) hb1; rcases hp with rfl | ⟨hp0, hp1⟩)
      | (go_at_call 40; refine (toEntry_c _ _ _ _ _ _ _ _ _ _ _).mono ?_; rintro e w2 ⟨rfl, hb2⟩; have k2 := bBox hb2 w.heap.size (by omega); have hz2 : w.heap.size + 1 ≤ w2.heap.size := (by have := hb2.size; omega); have B2 : Below w.heap.size w w2 := bTrans (by with_reducible assumption) hb2)
      | (go_at_call 39; refine (spec_AppendEntry_c s _ _ _ _ _ _ _ _ _ _ _ hl HE.out (by have := hp1.out; omega) (by have := hp1.out; omega)).mono ?_; rw [Hv.out]; rintro e w3 ⟨rfl, hb3⟩; have k3 := bBox hb3 w.heap.size (by omega); have hz3 : w.heap.size + 1 ≤ w3.heap.size := (by have := hb3.size; omega); have B3 : Below w.heap.size w w3 := bTrans (by with_reducible assumption) hb3)
      | (go_at_call 36; refine (impl_AppendEntry_c s _ _ _ _ _ _ _ _ _ _ _ hl HE.out (by have := hp1.out; omega) (by have := hp1.out; omega) (HT.out.below (by with_reducible assumption))).mono ?_; rw [Hv.out]; rintro e w4 ⟨rfl, hb4⟩; have k4 := bBox hb4 w.heap.size (by omega); have hz4 : w.heap.size + 1 ≤ w4.heap.size := (by have := hb4.size; omega); have B4 : Below w.heap.size w w4 := bTrans (by with_reducible assumption) hb4))
    all_goals (go_ret; exact ⟨rfl, by with_reducible assumption⟩)
  · have hli : (1048576 : Int) < (s.size : Int) := by omega
    go_enter Tryd.func8, Tryd.ntmps8
    go_wp2_with fail
    go_ret
    exact ⟨rfl, bAlloc (Below.refl _ _) _⟩
end Go.Proofs.YtebcdjpddoaajaaDoor
