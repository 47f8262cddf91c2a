/- Texts of this proof, one behind the other: BunSb. -/
import Derived.Test.YtebcdjpddoaajaaDoorGs26
import Derived.Test.YtebcdjpddoaajaaDoorGs28
import Derived.Test.YtebcdjpddoaajaaDoorGs33
import Derived.Test.YtebcdjpddoaajaaDoorGs34
/- Lists of bundles: the laws' helpers on them; BundlesOf: what the two of each answer. -/
namespace Go.Proofs.YtebcdjpddoaajaaDoor
open Go.RowKit
set_option linter.unusedVariables false
set_option linter.unusedSimpArgs false
set_option maxHeartbeats 1600000
set_option maxRecDepth 100000
/-! ### lists of bundles -/
structure BSv where
  A : Option Addr
  n : Nat
  c : Nat
  fs : List Nat
def RdBS (w : World) (v : BSv) (l : List Bundle) : Prop := RdSl RdBe w v.A v.n 2 l
def OwBS (w : World) (v : BSv) (l : List Bundle) : Prop := OwSl KBe w v.fs 47 2 v.A v.n v.c l
def fpBS (v : BSv) : List Nat := v.fs
def fewBS (l : List Bundle) : Prop := sumBulk Bundle.num l ≤ 1048576
def cntBS (l : List Bundle) : Nat := sumBulk Bundle.cnt l
def mkBS (k : Int) (l : List Bundle) : List Bundle := mkAll Bundle.cnt Bundle.mk_ k l
theorem OwBS.rd {w : World} {v : BSv} {l : List Bundle} (h : OwBS w v l) : RdBS w v l := OwSl.rd (R := RdBe) KBe.rd h
theorem RdBS.below {w w' : World} {v : BSv} {l : List Bundle} (h : RdBS w v l) (hb : Below w.heap.size w w') : RdBS w' v l := RdSl.below (R := RdBe) RdBe.below h hb
theorem OwBS.below {w w' : World} {v : BSv} {l : List Bundle} (h : OwBS w v l) (hb : Below w.heap.size w w') : OwBS w' v l := OwSl.below loc_Be h hb
theorem OwBS.upd {w w' : World} {v : BSv} {l : List Bundle} {fs : List Nat} (h : OwBS w v l) (hu : Upd fs w w') (hd : ∀ k ∈ fpBS v, k ∉ fs) : OwBS w' v l := OwSl.upd loc_Be h hu hd
theorem cnt_Be (l : List Bundle) : sumBulk Bundle.cnt l ≤ 8 * sumBulk Bundle.num l := by
  rw [← sum_mul]; exact sum_mono (fun r => by simp only [Bundle.cnt, Bundle.num, cntF]; omega) l
theorem cntBS_few {l : List Bundle} (h : fewBS l) : (cntBS l : Int) ≤ 20000000 := by have := cnt_Be l; unfold fewBS at h; unfold cntBS; omega
/-! ### BundlesOf: the plain law -/
theorem ascL_vldB : ∀ {l : List Factor} {p : Option Int}, ascL l p = true → ∀ f ∈ l, vldFactor f = true
  | g :: l, p, h, f, hf => by
    simp only [ascL, Bool.and_eq_true] at h
    rcases List.mem_cons.1 hf with rfl | hf
    · exact h.1
    · exact ascL_vldB h.2.2 f hf
theorem isFL_vldB {l : List Factor} (h : isFL l = true) : ∀ f ∈ l, vldFactor f = true := ascL_vldB (isFL_asc h)
theorem bundlesOf_no1 {l : List Factor} {r : Int} (h : isFL l = false) : bundlesOf l r = [] := by simp [bundlesOf, h]
theorem bundlesOf_no2 {l : List Factor} {r : Int} (h : inR r 0 2 = false) : bundlesOf l r = [] := by simp [bundlesOf, h]
def BInv (l : List Factor) (r : Int) (L : List Bundle) (k : Nat) : Prop := bundlesOf l r = (l.drop k).foldl (bunF r) L
theorem BInv.start {l : List Factor} {r : Int} (h : isFL l = true) (h2 : inR r 0 2 = true) : BInv l r [] 0 := by simp [BInv, bundlesOf, h, h2]
theorem BInv.skip {l : List Factor} {r : Int} {L : List Bundle} {k : Nat} {f : Factor} (h : BInv l r L k) (hf : Hid (l[k]? = some f)) (hr : ¬ robotOf f.id = r) : BInv l r L (k + 1) := by
  unfold BInv at *; rw [h, drop_at hf, List.foldl_cons, bunF, if_neg hr]
theorem BInv.put {l : List Factor} {r : Int} {L L2 : List Bundle} {k : Nat} {f : Factor} (h : BInv l r L k) (hf : Hid (l[k]? = some f)) (hr : robotOf f.id = r) (h2 : putB r L f = L2) : BInv l r L2 (k + 1) := by
  unfold BInv at *; rw [h, drop_at hf, List.foldl_cons, bunF, if_pos hr, h2]
theorem BInv.done {l : List Factor} {r : Int} {L : List Bundle} {k n : Nat} (h : BInv l r L k) (hl : Hid (l.length = n)) (hk : ¬ k < n) : Hid (bundlesOf l r = L) := by
  unfold BInv at h; rw [Hid, h, drop_end hl hk]; rfl
structure BOk (L : List Bundle) (r : Int) (k : Nat) : Prop where
  each : ∀ b ∈ L, b.robot = r ∧ b.factors.length ≤ 4
  len : L.length ≤ k
  sum : sumBulk Bundle.num L ≤ 2 * k
theorem BOk.nil (r : Int) : BOk [] r 0 := ⟨by simp, Nat.le_refl _, Nat.le_refl _⟩
theorem BOk.mono {L : List Bundle} {r : Int} {k : Nat} (h : BOk L r k) : BOk L r (k + 1) := ⟨h.each, by have := h.len; omega, by have := h.sum; omega⟩
theorem sum_snoc {α : Type} (c : α → Nat) : ∀ (l : List α) (x : α), sumBulk c (l ++ [x]) = sumBulk c l + c x
  | [], x => by simp [sumBulk]
  | y :: l, x => by simp only [List.cons_append, sumBulk, sum_snoc c l x]; omega
theorem sum_set {α : Type} (c : α → Nat) : ∀ (l : List α) (i : Nat) (x y : α), l[i]? = some x → sumBulk c (l.set i y) + c x = sumBulk c l + c y
  | a :: l, 0, x, y, h => by simp only [List.getElem?_cons_zero, Option.some.injEq] at h; subst h; simp only [List.set_cons_zero, sumBulk]; omega
  | a :: l, i + 1, x, y, h => by
    have := sum_set c l i x y (by simpa using h)
    simp only [List.set_cons_succ, sumBulk]; omega
theorem BOk.push {L : List Bundle} {r : Int} {k : Nat} (h : BOk L r k) (f : Factor) : BOk (L ++ [⟨r, [f]⟩]) r (k + 1) := by
  refine ⟨fun b hb => ?_, by have := h.len; simp; omega, by have := h.sum; rw [sum_snoc]; simp only [Bundle.num, List.length_cons, List.length_nil]; omega⟩
  rcases List.mem_append.1 hb with hb | hb
  · exact h.each b hb
  · simp at hb; subst hb; simp
theorem BOk.grow {L : List Bundle} {r : Int} {k m : Nat} {b : Bundle} (h : BOk L r k) (hb : L[m]? = some b) (h4 : b.factors.length < 4) (f : Factor) : BOk (L.set m ⟨b.robot, b.factors ++ [f]⟩) r (k + 1) := by
  refine ⟨fun x hx => ?_, by have := h.len; simp; omega, ?_⟩
  · rcases List.mem_or_eq_of_mem_set hx with hx | hx
    · exact h.each x hx
    · subst hx
      refine ⟨(h.each b (List.mem_of_getElem? hb)).1, by simp; omega⟩
  · have h1 := sum_set Bundle.num L m b ⟨b.robot, b.factors ++ [f]⟩ hb
    have := h.sum
    simp only [Bundle.num, List.length_append, List.length_cons, List.length_nil] at h1
    omega
theorem last_at {L : List Bundle} {m : Nat} {b : Bundle} (hb : L[m]? = some b) (hl : L.length = m + 1) : L = L.take m ++ [b] := by
  obtain ⟨hm, rfl⟩ := List.getElem?_eq_some_iff.1 hb
  have := List.take_succ_eq_append_getElem hm
  rw [← this, List.take_of_length_le (by omega)]
theorem putB_in {L : List Bundle} {m : Nat} {b : Bundle} {r : Int} {f : Factor} (hb : L[m]? = some b) (hl : L.length = m + 1) (h4 : b.factors.length < 4) : putB r L f = L.set m ⟨b.robot, b.factors ++ [f]⟩ := by
  have e := last_at hb hl
  have hlen : (L.take m).length = m := by simp; omega
  unfold putB
  rw [e]
  simp only [List.getLast?_append, List.getLast?_singleton, Option.some_or, List.dropLast_concat, h4, if_true]
  rw [List.set_append_right _ _ (by omega), hlen, Nat.sub_self, List.set_cons_zero]
theorem putB_new {L : List Bundle} {m : Nat} {b : Bundle} {r : Int} {f : Factor} (hb : L[m]? = some b) (hl : L.length = m + 1) (h4 : ¬ b.factors.length < 4) : putB r L f = L ++ [⟨r, [f]⟩] := by
  have e := last_at hb hl
  unfold putB
  rw [e]
  simp only [List.getLast?_append, List.getLast?_singleton, Option.some_or, h4, if_false]
theorem putB_nil (r : Int) (f : Factor) : putB r [] f = [] ++ [⟨r, [f]⟩] := rfl
theorem bOk_all {r : Int} : ∀ (m : List Factor) (L : List Bundle) (k : Nat), BOk L r k → BOk (m.foldl (bunF r) L) r (k + m.length)
  | [], L, k, h => h
  | f :: m, L, k, h => by
    have e : k + (f :: m).length = (k + 1) + m.length := by simp only [List.length_cons]; omega
    rw [List.foldl_cons, e]
    refine bOk_all m _ _ ?_
    unfold bunF
    split
    · cases hL : L.length with
      | zero =>
        have : L = [] := List.eq_nil_of_length_eq_zero hL
        subst this
        rw [putB_nil]; exact h.push f
      | succ q =>
        have hb : L[q]? = some (L[q]'(by omega)) := List.getElem?_eq_getElem _
        by_cases h4 : (L[q]'(by omega)).factors.length < 4
        · rw [putB_in hb hL h4]; exact h.grow hb h4 f
        · rw [putB_new hb hL h4]; exact h.push f
    · exact h.mono
theorem fewBS_of (l : List Factor) (r : Int) : fewBS (bundlesOf l r) := by
  unfold bundlesOf
  split
  · rename_i h
    simp only [Bool.and_eq_true] at h
    have := (bOk_all l [] 0 (BOk.nil r)).sum
    have := isFL_len h.1
    unfold fewBS; omega
  · unfold fewBS; simp [sumBulk]
theorem wrap_small {x : Int} (h0 : 0 ≤ x) (h1 : x ≤ 1000000) : IntKind.i64.wrap x = x := by rw [IntKind.wrap_i64]; omega
theorem set_last {α : Type} (L : List α) (x y : α) {N : Nat} (h : L.length = N) : (L ++ [x]).set N y = L ++ [y] := by
  rw [List.set_append_right _ _ (by omega), h, Nat.sub_self, List.set_cons_zero]
theorem last_is {α : Type} (L : List α) (x : α) {N : Nat} (h : L.length = N) : (L ++ [x])[N]? = some x := by rw [List.getElem?_append_right (by omega), h, Nat.sub_self]; rfl
theorem sz_bun : (Tryd.prog.info? 47).map (fun i => (i.zero, i.size, i.bytes)) = some (some (.agg #[.int .i64 0, .slice none 0 0]), 2, 32) := by kernel_rfl
theorem box1' (w : World) (o : Obj) {g : Nat} (hg : g = w.heap.size) : (w.alloc o).heap[g]? = some o := by subst hg; exact heap_alloc_new w o
theorem ownlit {w : World} {b : Nat} {f : Factor} {B : Nat} (h : w.heap[b]? = some (.cells f.cells.toArray 28 (0, 0))) : OwF w ⟨some ⟨b, 0, none⟩, 1, 1⟩ [f] := Own.box h rfl
theorem impl_BundlesOf_k (v : Sv) (l : List Factor) (r : Int) (w : World) (hm : bulkF l ≤ 1048576) (hok : okF l) (hr : RdF w v l) (hwf : (Lit.int .i64 r).wf = true) :
    Calls Tryd.prog 22 #[.slice v.A v.n v.c, .int .i64 r] w fun e w' => ∃ v' : BSv, e = .returned (.slice v'.A v'.n v'.c) ∧ OwBS w' v' (bundlesOf l r) ∧ Fresh w.heap.size w' (fpBS v') ∧ Below w.heap.size w w' := by
  have HS := Lib.hid (bulkF_small hm)
  obtain ⟨A0, n, c0⟩ := v
  have hl := hr.len
  dsimp only at hl
  have hn : n ≤ 1048576 := by have := hl.out; unfold bulkF at hm; omega
  obtain ⟨i0, hii, hq0, hq1, hq2⟩ := info_parts info_Factor
  obtain ⟨j0, hjj, hr0, hr1, hr2⟩ := info_parts sz_bun
  generalize hb1 : isFL l = b1
  generalize hb2 : inR r 0 2 = b2
  have HB1 := Lib.hid hb1
  have HB2 := Lib.hid hb2
  clear hm hok hwf hb1 hb2
  have hinR : (b2 = true ↔ (0 ≤ r ∧ r ≤ 2)) := by rw [← HB2.out]; exact inR_iff
  go_enter Tryd.func22, Tryd.ntmps22
  go_wp2_with fail
  refine Calls.mono (impl_IsFactorList_c A0 n c0 l _ hn hr HS.out) ?_
  rintro e w1 ⟨he, hb1⟩
  rw [HB1.out] at he
  subst he
  have H := hb1
  cases b1
  · have hfin := Lib.hid (bundlesOf_no1 (r := r) HB1.out)
    go_wp2_with fail
    go_ret
    exact ⟨⟨none, 0, 0, []⟩, rfl, by rw [hfin.out]; exact OwSl.nil_ _ _ _, Fresh.nil _ _, H⟩
  cases b2
  · have hfin := Lib.hid (bundlesOf_no2 (l := l) HB2.out)
    have hd : r < 0 ∨ (¬ r < 0 ∧ 3 ≤ r) := by
      have : ¬ (0 ≤ r ∧ r ≤ 2) := fun h => by have := hinR.2 h; cases this
      omega
    clear hinR
    rcases hd with hd | ⟨hd, hd2⟩
    · go_wp2_with fail
      go_ret
      exact ⟨⟨none, 0, 0, []⟩, rfl, by rw [hfin.out]; exact OwSl.nil_ _ _ _, Fresh.nil _ _, H⟩
    · go_wp2_with fail
      go_ret
      exact ⟨⟨none, 0, 0, []⟩, rfl, by rw [hfin.out]; exact OwSl.nil_ _ _ _, Fresh.nil _ _, H⟩
  obtain ⟨hr1', hr2'⟩ := hinR.1 rfl
  have nr1 : ¬ r < 0 := by omega
  have nr2 : ¬ 3 ≤ r := by omega
  clear hinR
  have L40 := isFL_len HB1.out
  have hn40 : n ≤ 40 := by have := hl.out; omega
  have h0 : Own (w1.alloc (.cells #[] 47)) 0 47 2 (some ⟨w1.heap.size, 0, none⟩) 0 0 [] := Own.made0 w1 _ 2 (Nat.zero_le _)
  have hs1 := H.size
  go_wp2_with fail
  go_loopw [23, 5, 8] (fun i o x8 wr => ∃ (k : Nat) (A : Option Addr) (n' c' : Nat) (fs : List Nat) (L : List Bundle), k ≤ n ∧ i = .int .i64 k ∧ o = .slice A n' c' ∧ OwSl KBe wr fs 47 2 A n' c' L ∧ Fresh w.heap.size wr fs ∧ BInv l r L k ∧ BOk L r k ∧ Below w.heap.size w wr) (fun i _ _ _ => n - (intOf i).toNat)
  case atStart => exact ⟨0, some ⟨w1.heap.size, 0, none⟩, 0, 0, [w1.heap.size], [], by omega, rfl, rfl, ⟨[], [], h0, trivial, rfl⟩, ⟨by simp, fun q hq => by simp at hq; omega, fun q hq => by simp at hq; simp; omega⟩, BInv.start HB1.out HB2.out, BOk.nil r, bAlloc H _⟩
  case round =>
    obtain ⟨k, A, n', c', fs, L, hk, rfl, rfl, how, hfr, hi, hbok, HWb⟩ := hrel
    have lL := how.len
    have hn' : n' ≤ 40 := by have := lL.out; have := hbok.len; omega
    by_cases hlt : k < n
    · obtain ⟨f, g5, off5, hf, rfl, e0, e1, e2, e3, e4, e5, e6, e7⟩ := RowF.at_ (Row.below hr HWb) hlt
      have hfid := vld_id (isFL_vldB HB1.out f (List.mem_of_getElem? hf.out))
      have hmi : MI f.id := MI.of (by omega)
      by_cases hro : robotOf f.id = r
      rotate_left
      · have hbi := hi.skip hf hro
        have hB2 : Below wr.heap.size wr (wr.alloc (.cells #[.int .i64 f.id, .int .i64 f.kind, .string f.frm, .string f.to, .int .i64 f.pose.turn, .int .i64 f.pose.x, .int .i64 f.pose.y, .int .i64 f.weight] 28)) := bAlloc (Below.refl _ _) _
        go_wp2_with (go_at_call 60; refine (impl_RobotOf_c _ _ hmi).mono ?_; rintro e w2 ⟨rfl, rfl⟩)
        go_roundw
        case rel => exact ⟨k + 1, A, n', c', fs, L, by omega, by go_num, rfl, how.below loc_Be hB2, hfr.grow hB2.size, hbi, hbok.mono, bTrans HWb hB2⟩
        case measure => simp [intOf]; omega
      cases hn0 : n' with
      | zero =>
        subst hn0
        have hL0 : L = [] := List.eq_nil_of_length_eq_zero lL.out
        have hz0 : (0 : Int) < 1 := by omega
        have hw0 : IntKind.i64.wrap 0 = 0 := by decide
        have WB : Below wr.heap.size wr ((wr.alloc (.cells #[.int .i64 f.id, .int .i64 f.kind, .string f.frm, .string f.to, .int .i64 f.pose.turn, .int .i64 f.pose.x, .int .i64 f.pose.y, .int .i64 f.weight] 28)).alloc (.cells #[.int .i64 r, .slice none 0 0] 47)) := bAlloc (bAlloc (Below.refl _ _) _) _
        obtain ⟨css, hco, hpush⟩ := OwSl.push loc_Be (B := w.heap.size) (how.below loc_Be WB) (hfr.grow WB.size) (f := fpF ⟨none, 0, 0⟩) (cs := [.int .i64 r, .slice none 0 0]) (x := ⟨r, []⟩) ⟨⟨none, 0, 0⟩, rfl, Own.nil_ _ _ _ _, rfl⟩ (Fresh.nil _ _) (fun q hq hm => by simp [fpF, obl, ob] at hm) (by have := WB.size; have := HWb.size; omega)
        have hrw : Row ((wr.alloc (.cells #[.int .i64 f.id, .int .i64 f.kind, .string f.frm, .string f.to, .int .i64 f.pose.turn, .int .i64 f.pose.x, .int .i64 f.pose.y, .int .i64 f.weight] 28)).alloc (.cells #[.int .i64 r, .slice none 0 0] 47)) (some ⟨wr.heap.size + 1, 0, none⟩) 1 2 [[.int .i64 r, .slice none 0 0]] := Row.new1' _ _ [.int .i64 r, .slice none 0 0] 2 _ (by simp)
        have HCO := Lib.hid hco
        have HP := Lib.hid hpush
        have hAw : Hid (∀ q, ob A = some q → w.heap.size ≤ q ∧ q < wr.heap.size) := fun q hq => by have h1 := how.obl_mem q (mem_obl.2 hq); exact ⟨hfr.lo q h1, hfr.hi q h1⟩
        clear hco hpush
        go_wp2_with (first
          | (go_at_call 60; refine (impl_RobotOf_c _ _ hmi).mono ?_; rw [hro]; rintro e w2 ⟨rfl, rfl⟩)
          | (at_builtin; refine wpList_append rfl (.tmp 46) (.tmp 49) 44 rfl 0 47 2 32 j0 _ Tryd.underlying44 hjj hr0 hr1 hr2 rfl (by omega) A 0 c' css rfl HCO.out (some ⟨wr.heap.size + 1, 0, none⟩) 1 1 [[.int .i64 r, .slice none 0 0]] rfl hrw (by simp) (by simp [Value.oneCell']) (by simp only [maxLen]; omega) (by omega) (Nat.zero_le _) ?_; intro A3 c3 w3 ho3 hg3 hat3; have fz : wr.heap.size < w3.heap.size := (by have := hg3.size; simp at this; omega); have kb := gBox hg3 wr.heap.size (by simp; omega) (fun q hq e => by have := (hAw.out q hq).2; omega)))
        have hg3' := hg3
        obtain ⟨fs2, hs2, hf2⟩ := HP.out w3 A3 c3 ho3 hg3 hat3
        have H3 : Below w.heap.size w w3 := bGrown (bTrans HWb WB) hg3 (fun q hq => (hAw.out q hq).1)
        obtain ⟨b, hbe⟩ : ∃ b : Bundle, b = ⟨r, []⟩ := ⟨_, rfl⟩
        rw [← hbe] at hs2
        have h4b : b.factors.length < 4 := by rw [hbe]; simp
        have hset : (L ++ [b]).set 0 ⟨b.robot, b.factors ++ [f]⟩ = L ++ [⟨r, [f]⟩] := by rw [set_last L _ _ lL.out, hbe]; rfl
        clear hbe
        obtain ⟨css, ff, cs, g, hown, hcs, hKe, rfl, hgf, hgB, hgl, hfB, hfn, hback⟩ := OwSl.refocus loc_Be hs2 hf2 H3.size (last_is L b lL.out)
        obtain ⟨vb, rfl, hOF, rfl⟩ := hKe
        have g1 : w3.cell? ⟨g, 1, none⟩ = some (.slice vb.A vb.n vb.c) := own_cells hown hcs 1 _ rfl
        have gfz := hown.frozen rfl
        refine region_at fun W hW => ?_
        have hWb : Below w3.heap.size w3 W := by rw [hW.out]; exact Below.refl _ _
        have fc0 : W.cell? ⟨wr.heap.size, 0, none⟩ = some (.int .i64 f.id) := by rw [hW.out, kb]; simp
        have fc1 : W.cell? ⟨wr.heap.size, 1, none⟩ = some (.int .i64 f.kind) := by rw [hW.out, kb]; simp
        have fc2 : W.cell? ⟨wr.heap.size, 2, none⟩ = some (.string f.frm) := by rw [hW.out, kb]; simp
        have fc3 : W.cell? ⟨wr.heap.size, 3, none⟩ = some (.string f.to) := by rw [hW.out, kb]; simp
        have fc4 : W.cell? ⟨wr.heap.size, 4, none⟩ = some (.int .i64 f.pose.turn) := by rw [hW.out, kb]; simp
        have fc5 : W.cell? ⟨wr.heap.size, 5, none⟩ = some (.int .i64 f.pose.x) := by rw [hW.out, kb]; simp
        have fc6 : W.cell? ⟨wr.heap.size, 6, none⟩ = some (.int .i64 f.pose.y) := by rw [hW.out, kb]; simp
        have fc7 : W.cell? ⟨wr.heap.size, 7, none⟩ = some (.int .i64 f.weight) := by rw [hW.out, kb]; simp
        clear hW
        have WB : Below W.heap.size W (W.alloc (.cells #[.int .i64 f.id, .int .i64 f.kind, .string f.frm, .string f.to, .int .i64 f.pose.turn, .int .i64 f.pose.x, .int .i64 f.pose.y, .int .i64 f.weight] 28)) := bAlloc (Below.refl _ _) _
        have g1W := bCell hWb g1
        have gzW : ∀ o, W.frozen? ⟨g, o, none⟩ = false := fun o => (bBoxF hWb g hgl o).trans (gfz o)
        have HOW := Lib.hid (OwF.below (OwF.below hOF hWb) WB)
        have hrw : Row (W.alloc (.cells #[.int .i64 f.id, .int .i64 f.kind, .string f.frm, .string f.to, .int .i64 f.pose.turn, .int .i64 f.pose.x, .int .i64 f.pose.y, .int .i64 f.weight] 28)) (some ⟨W.heap.size, 0, none⟩) 1 8 [f.cells] := Row.new1' _ _ f.cells 8 _ rfl
        have hglW : g < W.heap.size := Nat.lt_of_lt_of_le hgl hWb.size
        have hgA : Hid (¬ ob vb.A = some g) := fun e => hgf (mem_obl.2 e)
        have hvn : vb.n < 4 := by have := (OwF.rd hOF).len.out; omega
        have fbl : wr.heap.size < W.heap.size := cell_lt fc0
        go_region_law (first
          | (refine step_append rfl (.tmp 61) (.tmp 63) 23 rfl 0 28 8 80 i0 _ Tryd.underlying23 hii hq0 hq1 hq2 rfl (by omega) vb.A vb.n vb.c (b.factors.map Factor.cells) rfl (HOW.out.own.keep fun _ _ => rfl) (some ⟨W.heap.size, 0, none⟩) 1 1 [f.cells] rfl (Row.below hrw (bDrew (Below.refl _ _))) (by simp [Factor.cells]) (by simp [Factor.cells, Value.oneCell']) (by simp only [maxLen]; omega) (by omega) (Nat.zero_le _) ?_; intro A3 c3 w3' ho3 hg3 hat3; have tb1 : w3'.cell? ⟨g, 1, none⟩ = some (.slice vb.A vb.n vb.c) := World.grownBy.cell hg3 (bCell (bDrew WB) g1W) (fun e => hgA.out e.symm); have tbf : ∀ o, w3'.frozen? ⟨g, o, none⟩ = false := (fun o => (gBoxF hg3 g (by simp; omega) (fun q hq e => hgA.out (e ▸ hq)) o).trans ((bBoxF (bDrew WB) g hglW o).trans (gzW o)))))
        all_goals
          have hu3 : Upd (obl vb.A) w3 w3' := ((Upd.of_below hWb).then_below (bDrew WB)).trans (Upd.of_row hg3)
          have hown3 := hown.upd hu3 (apart1 hgf)
          have hown4 : Own (w3'.setCell ⟨g, 1, none⟩ (.slice A3 (vb.n + 1) c3)) 0 47 2 (some ⟨g, 0, none⟩) _ _ (css.set 0 [.int .i64 b.robot, .slice A3 (vb.n + 1) c3]) := (hown3.cell hcs (j := 1) (by omega) (.slice A3 (vb.n + 1) c3)).1
          have hat4 : ob A3 = ob vb.A ∨ ob A3 = some (W.heap.size + 1) := by simpa using hat3
          have hgA3 : g ∉ obl A3 := fun hm => by
            have h1 := mem_obl.1 hm
            rcases hat4 with h | h
            · rw [h] at h1; exact hgA.out h1
            · rw [h] at h1; have := Option.some.inj h1; omega
          have hu4 : Upd (g :: fpF vb) w3 (w3'.setCell ⟨g, 1, none⟩ (.slice A3 (vb.n + 1) c3)) := (hu3.mono fun q hq => List.mem_cons_of_mem _ hq).set_in (by simp) _
          have hO4 : OwF (w3'.setCell ⟨g, 1, none⟩ (.slice A3 (vb.n + 1) c3)) ⟨A3, vb.n + 1, c3⟩ (b.factors ++ [f]) := by
            have := ho3.upd ((Upd.refl [g] w3').set_in (p := ⟨g, 1, none⟩) (by simp) (.slice A3 (vb.n + 1) c3)) (not1 hgA3)
            unfold OwF; simpa using this
          obtain ⟨fs2, hs2, hf2⟩ := hback _ _ ⟨b.robot, b.factors ++ [f]⟩ (obl A3) hown4 ⟨⟨A3, vb.n + 1, c3⟩, rfl, hO4, rfl⟩ hu4 (obl_nd _) (fun q hq => by
            have h1 := mem_obl.1 hq
            rcases hat4 with h | h
            · rw [h] at h1; exact .inl (mem_obl.2 h1)
            · rw [h] at h1; have h2 := Option.some.inj h1; have := hWb.size; exact .inr (by omega))
          rw [hset] at hs2
          have HF := bUpd H3 hu4 (fun q hq => by rcases List.mem_cons.1 hq with rfl | hq; exact hgB; exact (hfB q hq).1)
          have hbi := hi.put hf hro (show putB r L f = L ++ [⟨r, [f]⟩] from by rw [hL0]; exact putB_nil r f)
          have hbk := hbok.push f
          go_wp2_with fail
          go_roundw
          case rel => exact ⟨k + 1, _, _, _, fs2, _, by omega, by go_num, rfl, hs2, hf2, hbi, hbk, HF⟩
          case measure => simp [intOf]; omega
      | succ m =>
        subst hn0
        obtain ⟨b0, hb0⟩ := at_of lL (show m < m + 1 by omega)
        have hmI : (0 : Int) ≤ (m : Int) := by omega
        have hmJ : (m : Int) < (m : Int) + 1 := by omega
        by_cases h4 : b0.factors.length < 4
        · have hmz : ¬ (m : Int) + 1 = 0 := by omega
          have hw0 : IntKind.i64.wrap (m : Int) = (m : Int) := wrap_small (by omega) (by omega)
          obtain ⟨b, hbb⟩ : ∃ b, b = b0 := ⟨_, rfl⟩
          rw [← hbb] at hb0 h4
          clear hbb
          have hb := hb0
          obtain ⟨css, ff, cs, g, hown, hcs, hKe, rfl, hgf, hgB, hgl, hfB, hfn, hback⟩ := OwSl.refocus loc_Be how hfr HWb.size hb.out
          obtain ⟨vb, rfl, hOF, rfl⟩ := hKe
          have g1 : wr.cell? ⟨g, m * 2 + 1, none⟩ = some (.slice vb.A vb.n vb.c) := own_cells hown hcs 1 _ rfl
          have gfz := hown.frozen rfl
          have lb := (OwF.rd hOF).len
          have h4n : vb.n < 4 := by have := lb.out; omega
          have h4i : ¬ (vb.n : Int) = 4 := by omega
          have h4e : ¬ vb.n = 4 := by omega
          have h4f : ((vb.n : Int) == 4) = false := by simp; omega
          have hmf : (((m : Int) + 1) == 0) = false := by simp; omega
          go_wp2_with (go_at_call 60; refine (impl_RobotOf_c _ _ hmi).mono ?_; rw [hro]; rintro e w2 ⟨rfl, rfl⟩)
          refine region_at fun W hW => ?_
          have hWb : Below wr.heap.size wr W := by rw [hW.out]; exact bAlloc (Below.refl _ _) _
          have fc0 : W.cell? ⟨wr.heap.size, 0, none⟩ = some (.int .i64 f.id) := by rw [hW.out]; simp
          have fc1 : W.cell? ⟨wr.heap.size, 1, none⟩ = some (.int .i64 f.kind) := by rw [hW.out]; simp
          have fc2 : W.cell? ⟨wr.heap.size, 2, none⟩ = some (.string f.frm) := by rw [hW.out]; simp
          have fc3 : W.cell? ⟨wr.heap.size, 3, none⟩ = some (.string f.to) := by rw [hW.out]; simp
          have fc4 : W.cell? ⟨wr.heap.size, 4, none⟩ = some (.int .i64 f.pose.turn) := by rw [hW.out]; simp
          have fc5 : W.cell? ⟨wr.heap.size, 5, none⟩ = some (.int .i64 f.pose.x) := by rw [hW.out]; simp
          have fc6 : W.cell? ⟨wr.heap.size, 6, none⟩ = some (.int .i64 f.pose.y) := by rw [hW.out]; simp
          have fc7 : W.cell? ⟨wr.heap.size, 7, none⟩ = some (.int .i64 f.weight) := by rw [hW.out]; simp
          clear hW
          have WB : Below W.heap.size W (W.alloc (.cells #[.int .i64 f.id, .int .i64 f.kind, .string f.frm, .string f.to, .int .i64 f.pose.turn, .int .i64 f.pose.x, .int .i64 f.pose.y, .int .i64 f.weight] 28)) := bAlloc (Below.refl _ _) _
          have g1W := bCell hWb g1
          have gzW : ∀ o, W.frozen? ⟨g, o, none⟩ = false := fun o => (bBoxF hWb g hgl o).trans (gfz o)
          have HOW := Lib.hid (OwF.below (OwF.below hOF hWb) WB)
          have hrw : Row (W.alloc (.cells #[.int .i64 f.id, .int .i64 f.kind, .string f.frm, .string f.to, .int .i64 f.pose.turn, .int .i64 f.pose.x, .int .i64 f.pose.y, .int .i64 f.weight] 28)) (some ⟨W.heap.size, 0, none⟩) 1 8 [f.cells] := Row.new1' _ _ f.cells 8 _ rfl
          have hglW : g < W.heap.size := Nat.lt_of_lt_of_le hgl hWb.size
          have hgA : Hid (¬ ob vb.A = some g) := fun e => hgf (mem_obl.2 e)
          have hvn : vb.n < 4 := by have := (OwF.rd hOF).len.out; omega
          have fbl : wr.heap.size < W.heap.size := cell_lt fc0
          go_region_law (first
            | (refine step_append rfl (.tmp 61) (.tmp 63) 23 rfl 0 28 8 80 i0 _ Tryd.underlying23 hii hq0 hq1 hq2 rfl (by omega) vb.A vb.n vb.c (b.factors.map Factor.cells) rfl (HOW.out.own.keep fun _ _ => rfl) (some ⟨W.heap.size, 0, none⟩) 1 1 [f.cells] rfl (Row.below hrw (bDrew (Below.refl _ _))) (by simp [Factor.cells]) (by simp [Factor.cells, Value.oneCell']) (by simp only [maxLen]; omega) (by omega) (Nat.zero_le _) ?_; intro A3 c3 w3' ho3 hg3 hat3; have tb1 : w3'.cell? ⟨g, m * 2 + 1, none⟩ = some (.slice vb.A vb.n vb.c) := World.grownBy.cell hg3 (bCell (bDrew WB) g1W) (fun e => hgA.out e.symm); have tbf : ∀ o, w3'.frozen? ⟨g, o, none⟩ = false := (fun o => (gBoxF hg3 g (by simp; omega) (fun q hq e => hgA.out (e ▸ hq)) o).trans ((bBoxF (bDrew WB) g hglW o).trans (gzW o)))))
          all_goals
            have hu3 : Upd (obl vb.A) wr w3' := ((Upd.of_below hWb).then_below (bDrew WB)).trans (Upd.of_row hg3)
            have hown3 := hown.upd hu3 (apart1 hgf)
            have hown4 : Own (w3'.setCell ⟨g, m * 2 + 1, none⟩ (.slice A3 (vb.n + 1) c3)) 0 47 2 (some ⟨g, 0, none⟩) _ _ (css.set m [.int .i64 b.robot, .slice A3 (vb.n + 1) c3]) := (hown3.cell hcs (j := 1) (by omega) (.slice A3 (vb.n + 1) c3)).1
            have hat4 : ob A3 = ob vb.A ∨ ob A3 = some (W.heap.size + 1) := by simpa using hat3
            have hgA3 : g ∉ obl A3 := fun hm => by
              have h1 := mem_obl.1 hm
              rcases hat4 with h | h
              · rw [h] at h1; exact hgA.out h1
              · rw [h] at h1; have := Option.some.inj h1; omega
            have hu4 : Upd (g :: fpF vb) wr (w3'.setCell ⟨g, m * 2 + 1, none⟩ (.slice A3 (vb.n + 1) c3)) := (hu3.mono fun q hq => List.mem_cons_of_mem _ hq).set_in (by simp) _
            have hO4 : OwF (w3'.setCell ⟨g, m * 2 + 1, none⟩ (.slice A3 (vb.n + 1) c3)) ⟨A3, vb.n + 1, c3⟩ (b.factors ++ [f]) := by
              have := ho3.upd ((Upd.refl [g] w3').set_in (p := ⟨g, m * 2 + 1, none⟩) (by simp) (.slice A3 (vb.n + 1) c3)) (not1 hgA3)
              unfold OwF; simpa using this
            obtain ⟨fs2, hs2, hf2⟩ := hback _ _ ⟨b.robot, b.factors ++ [f]⟩ (obl A3) hown4 ⟨⟨A3, vb.n + 1, c3⟩, rfl, hO4, rfl⟩ hu4 (obl_nd _) (fun q hq => by
              have h1 := mem_obl.1 hq
              rcases hat4 with h | h
              · rw [h] at h1; exact .inl (mem_obl.2 h1)
              · rw [h] at h1; have h2 := Option.some.inj h1; have := hWb.size; exact .inr (by omega))
            
            have HF := bUpd HWb hu4 (fun q hq => by rcases List.mem_cons.1 hq with rfl | hq; exact hgB; exact (hfB q hq).1)
            have hbi := hi.put hf hro (putB_in hb.out lL.out h4)
            have hbk := hbok.grow hb.out h4 f
            go_wp2_with fail
            go_roundw
            case rel => exact ⟨k + 1, _, _, _, fs2, _, by omega, by go_num, rfl, hs2, hf2, hbi, hbk, HF⟩
            case measure => simp [intOf]; omega
        · have hle4 := (hbok.each b0 (List.mem_of_getElem? hb0.out)).2
          obtain ⟨css, ff, cs, g, hown, hcs, hKe, rfl, hgf, hgB, hgl, hfB, hfn, hback⟩ := OwSl.refocus loc_Be how hfr HWb.size hb0.out
          obtain ⟨vb, rfl, hOF, rfl⟩ := hKe
          have g1 : wr.cell? ⟨g, m * 2 + 1, none⟩ = some (.slice vb.A vb.n vb.c) := own_cells hown hcs 1 _ rfl
          have lb := (OwF.rd hOF).len
          have h4n : vb.n = 4 := by have := lb.out; omega
          have h4i : (vb.n : Int) = 4 := by omega
          clear hcs hown hback hOF hfB hfn lb
          have hmK : (0 : Int) ≤ (m : Int) + 1 := by omega
          have hmz : ¬ (m : Int) + 1 = 0 := by omega
          have hw0 : IntKind.i64.wrap ((m : Int) + 1) = (m : Int) + 1 := wrap_small (by omega) (by omega)
          have hmL : (m : Int) + 1 < (m : Int) + 1 + 1 := by omega
          have WB : Below wr.heap.size wr ((wr.alloc (.cells #[.int .i64 f.id, .int .i64 f.kind, .string f.frm, .string f.to, .int .i64 f.pose.turn, .int .i64 f.pose.x, .int .i64 f.pose.y, .int .i64 f.weight] 28)).alloc (.cells #[.int .i64 r, .slice none 0 0] 47)) := bAlloc (bAlloc (Below.refl _ _) _) _
          obtain ⟨css, hco, hpush⟩ := OwSl.push loc_Be (B := w.heap.size) (how.below loc_Be WB) (hfr.grow WB.size) (f := fpF ⟨none, 0, 0⟩) (cs := [.int .i64 r, .slice none 0 0]) (x := ⟨r, []⟩) ⟨⟨none, 0, 0⟩, rfl, Own.nil_ _ _ _ _, rfl⟩ (Fresh.nil _ _) (fun q hq hm => by simp [fpF, obl, ob] at hm) (by have := WB.size; have := HWb.size; omega)
          have hrw : Row ((wr.alloc (.cells #[.int .i64 f.id, .int .i64 f.kind, .string f.frm, .string f.to, .int .i64 f.pose.turn, .int .i64 f.pose.x, .int .i64 f.pose.y, .int .i64 f.weight] 28)).alloc (.cells #[.int .i64 r, .slice none 0 0] 47)) (some ⟨wr.heap.size + 1, 0, none⟩) 1 2 [[.int .i64 r, .slice none 0 0]] := Row.new1' _ _ [.int .i64 r, .slice none 0 0] 2 _ (by simp)
          have HCO := Lib.hid hco
          have HP := Lib.hid hpush
          have hAw : Hid (∀ q, ob (some ⟨g, 0, none⟩) = some q → w.heap.size ≤ q ∧ q < wr.heap.size) := fun q hq => by have h1 := how.obl_mem q (mem_obl.2 hq); exact ⟨hfr.lo q h1, hfr.hi q h1⟩
          clear hco hpush
          go_wp2_with (first
            | (go_at_call 60; refine (impl_RobotOf_c _ _ hmi).mono ?_; rw [hro]; rintro e w2 ⟨rfl, rfl⟩)
            | (at_builtin; refine wpList_append rfl (.tmp 46) (.tmp 49) 44 rfl 0 47 2 32 j0 _ Tryd.underlying44 hjj hr0 hr1 hr2 rfl (by omega) (some ⟨g, 0, none⟩) (m + 1) c' css rfl HCO.out (some ⟨wr.heap.size + 1, 0, none⟩) 1 1 [[.int .i64 r, .slice none 0 0]] rfl hrw (by simp) (by simp [Value.oneCell']) (by simp only [maxLen]; omega) (by omega) (Nat.zero_le _) ?_; intro A3 c3 w3 ho3 hg3 hat3; have fz : wr.heap.size < w3.heap.size := (by have := hg3.size; simp at this; omega); have kb := gBox hg3 wr.heap.size (by simp; omega) (fun q hq e => by have := (hAw.out q hq).2; omega)))
          have hg3' := hg3
          obtain ⟨fs2, hs2, hf2⟩ := HP.out w3 A3 c3 ho3 hg3 hat3
          have H3 : Below w.heap.size w w3 := bGrown (bTrans HWb WB) hg3 (fun q hq => (hAw.out q hq).1)
          obtain ⟨b, hbe⟩ : ∃ b : Bundle, b = ⟨r, []⟩ := ⟨_, rfl⟩
          rw [← hbe] at hs2
          have h4b : b.factors.length < 4 := by rw [hbe]; simp
          have hset : (L ++ [b]).set (m + 1) ⟨b.robot, b.factors ++ [f]⟩ = L ++ [⟨r, [f]⟩] := by rw [set_last L _ _ lL.out, hbe]; rfl
          clear hbe
          obtain ⟨css, ff, cs, g, hown, hcs, hKe, rfl, hgf, hgB, hgl, hfB, hfn, hback⟩ := OwSl.refocus loc_Be hs2 hf2 H3.size (last_is L b lL.out)
          obtain ⟨vb, rfl, hOF, rfl⟩ := hKe
          have g1 : w3.cell? ⟨g, (m + 1) * 2 + 1, none⟩ = some (.slice vb.A vb.n vb.c) := own_cells hown hcs 1 _ rfl
          have gfz := hown.frozen rfl
          refine region_at fun W hW => ?_
          have hWb : Below w3.heap.size w3 W := by rw [hW.out]; exact Below.refl _ _
          have fc0 : W.cell? ⟨wr.heap.size, 0, none⟩ = some (.int .i64 f.id) := by rw [hW.out, kb]; simp
          have fc1 : W.cell? ⟨wr.heap.size, 1, none⟩ = some (.int .i64 f.kind) := by rw [hW.out, kb]; simp
          have fc2 : W.cell? ⟨wr.heap.size, 2, none⟩ = some (.string f.frm) := by rw [hW.out, kb]; simp
          have fc3 : W.cell? ⟨wr.heap.size, 3, none⟩ = some (.string f.to) := by rw [hW.out, kb]; simp
          have fc4 : W.cell? ⟨wr.heap.size, 4, none⟩ = some (.int .i64 f.pose.turn) := by rw [hW.out, kb]; simp
          have fc5 : W.cell? ⟨wr.heap.size, 5, none⟩ = some (.int .i64 f.pose.x) := by rw [hW.out, kb]; simp
          have fc6 : W.cell? ⟨wr.heap.size, 6, none⟩ = some (.int .i64 f.pose.y) := by rw [hW.out, kb]; simp
          have fc7 : W.cell? ⟨wr.heap.size, 7, none⟩ = some (.int .i64 f.weight) := by rw [hW.out, kb]; simp
          clear hW
          have WB : Below W.heap.size W (W.alloc (.cells #[.int .i64 f.id, .int .i64 f.kind, .string f.frm, .string f.to, .int .i64 f.pose.turn, .int .i64 f.pose.x, .int .i64 f.pose.y, .int .i64 f.weight] 28)) := bAlloc (Below.refl _ _) _
          have g1W := bCell hWb g1
          have gzW : ∀ o, W.frozen? ⟨g, o, none⟩ = false := fun o => (bBoxF hWb g hgl o).trans (gfz o)
          have HOW := Lib.hid (OwF.below (OwF.below hOF hWb) WB)
          have hrw : Row (W.alloc (.cells #[.int .i64 f.id, .int .i64 f.kind, .string f.frm, .string f.to, .int .i64 f.pose.turn, .int .i64 f.pose.x, .int .i64 f.pose.y, .int .i64 f.weight] 28)) (some ⟨W.heap.size, 0, none⟩) 1 8 [f.cells] := Row.new1' _ _ f.cells 8 _ rfl
          have hglW : g < W.heap.size := Nat.lt_of_lt_of_le hgl hWb.size
          have hgA : Hid (¬ ob vb.A = some g) := fun e => hgf (mem_obl.2 e)
          have hvn : vb.n < 4 := by have := (OwF.rd hOF).len.out; omega
          have fbl : wr.heap.size < W.heap.size := cell_lt fc0
          go_region_law (first
            | (refine step_append rfl (.tmp 61) (.tmp 63) 23 rfl 0 28 8 80 i0 _ Tryd.underlying23 hii hq0 hq1 hq2 rfl (by omega) vb.A vb.n vb.c (b.factors.map Factor.cells) rfl (HOW.out.own.keep fun _ _ => rfl) (some ⟨W.heap.size, 0, none⟩) 1 1 [f.cells] rfl (Row.below hrw (bDrew (Below.refl _ _))) (by simp [Factor.cells]) (by simp [Factor.cells, Value.oneCell']) (by simp only [maxLen]; omega) (by omega) (Nat.zero_le _) ?_; intro A3 c3 w3' ho3 hg3 hat3; have tb1 : w3'.cell? ⟨g, (m + 1) * 2 + 1, none⟩ = some (.slice vb.A vb.n vb.c) := World.grownBy.cell hg3 (bCell (bDrew WB) g1W) (fun e => hgA.out e.symm); have tbf : ∀ o, w3'.frozen? ⟨g, o, none⟩ = false := (fun o => (gBoxF hg3 g (by simp; omega) (fun q hq e => hgA.out (e ▸ hq)) o).trans ((bBoxF (bDrew WB) g hglW o).trans (gzW o)))))
          all_goals
            have hu3 : Upd (obl vb.A) w3 w3' := ((Upd.of_below hWb).then_below (bDrew WB)).trans (Upd.of_row hg3)
            have hown3 := hown.upd hu3 (apart1 hgf)
            have hown4 : Own (w3'.setCell ⟨g, (m + 1) * 2 + 1, none⟩ (.slice A3 (vb.n + 1) c3)) 0 47 2 (some ⟨g, 0, none⟩) _ _ (css.set (m + 1) [.int .i64 b.robot, .slice A3 (vb.n + 1) c3]) := (hown3.cell hcs (j := 1) (by omega) (.slice A3 (vb.n + 1) c3)).1
            have hat4 : ob A3 = ob vb.A ∨ ob A3 = some (W.heap.size + 1) := by simpa using hat3
            have hgA3 : g ∉ obl A3 := fun hm => by
              have h1 := mem_obl.1 hm
              rcases hat4 with h | h
              · rw [h] at h1; exact hgA.out h1
              · rw [h] at h1; have := Option.some.inj h1; omega
            have hu4 : Upd (g :: fpF vb) w3 (w3'.setCell ⟨g, (m + 1) * 2 + 1, none⟩ (.slice A3 (vb.n + 1) c3)) := (hu3.mono fun q hq => List.mem_cons_of_mem _ hq).set_in (by simp) _
            have hO4 : OwF (w3'.setCell ⟨g, (m + 1) * 2 + 1, none⟩ (.slice A3 (vb.n + 1) c3)) ⟨A3, vb.n + 1, c3⟩ (b.factors ++ [f]) := by
              have := ho3.upd ((Upd.refl [g] w3').set_in (p := ⟨g, (m + 1) * 2 + 1, none⟩) (by simp) (.slice A3 (vb.n + 1) c3)) (not1 hgA3)
              unfold OwF; simpa using this
            obtain ⟨fs2, hs2, hf2⟩ := hback _ _ ⟨b.robot, b.factors ++ [f]⟩ (obl A3) hown4 ⟨⟨A3, vb.n + 1, c3⟩, rfl, hO4, rfl⟩ hu4 (obl_nd _) (fun q hq => by
              have h1 := mem_obl.1 hq
              rcases hat4 with h | h
              · rw [h] at h1; exact .inl (mem_obl.2 h1)
              · rw [h] at h1; have h2 := Option.some.inj h1; have := hWb.size; exact .inr (by omega))
            rw [hset] at hs2
            have HF := bUpd H3 hu4 (fun q hq => by rcases List.mem_cons.1 hq with rfl | hq; exact hgB; exact (hfB q hq).1)
            have hbi := hi.put hf hro (putB_new hb0.out lL.out h4)
            have hbk := hbok.push f
            go_wp2_with fail
            go_roundw
            case rel => exact ⟨k + 1, _, _, _, fs2, _, by omega, by go_num, rfl, hs2, hf2, hbi, hbk, HF⟩
            case measure => simp [intOf]; omega
    · have hfin := hi.done hl hlt
      go_wp2_with fail
      go_ret
      exact ⟨⟨A, n', c', fs⟩, rfl, by rw [hfin.out]; exact how, hfr, HWb⟩
end Go.Proofs.YtebcdjpddoaajaaDoor
