/- Texts of this proof, one behind the other: DigP, PrsB. -/
import Derived.Test.YtebcdjpddoaajaaDoorGs8
import Derived.Test.YtebcdjpddoaajaaDoorGs12
import Derived.Test.YtebcdjpddoaajaaDoorGs18
import Derived.Test.YtebcdjpddoaajaaDoorGs19
/- The digest's, the bundle's, the journal's text, round by round. No program in sight. -/
namespace Go.Proofs.YtebcdjpddoaajaaDoor
open Go.RowKit
set_option linter.unusedVariables false
set_option linter.unusedSimpArgs false
set_option maxHeartbeats 1000000
set_option maxRecDepth 100000
/-- the text of the first k factors is s -/
def DigInv (l : List Factor) (k : Nat) (s : ByteArray) : Prop := s.data.toList ++ digL (l.drop k) = digL l
theorem DigInv.next {l : List Factor} {k : Nat} {f : Factor} {s u : ByteArray} (h : DigInv l k s) (hf : Hid (l[k]? = some f)) (hu : u.data.toList = s.data.toList ++ ((fmtFac f).data.toList ++ [10])) : DigInv l (k + 1) u := by
  unfold DigInv at *
  rw [← h, drop_at hf, hu]
  simp [digL]
theorem DigInv.done {l : List Factor} {k n : Nat} {s : ByteArray} (h : DigInv l k s) (hl : Hid (l.length = n)) (hk : ¬ k < n) : chk s = digest l := by
  unfold DigInv at h
  rw [drop_end hl hk] at h
  unfold digest
  congr 1
  apply bext
  simpa [digL] using h
def fmtBun (b : Bundle) : ByteArray := if isBundle b.robot b.factors then bunT b.robot b.factors else ⟨#[]⟩
def BtInv (r : Int) (l : List Factor) (k : Nat) (s : ByteArray) : Prop := s.data.toList ++ facsL (l.drop k) = (bunT r l).data.toList
theorem BtInv.next {r : Int} {l : List Factor} {k : Nat} {f : Factor} {s u : ByteArray} (h : BtInv r l k s) (hf : Hid (l[k]? = some f)) (hv : vldFactor f = true) (hu : u.data.toList = s.data.toList ++ 59 :: (fmtFac f).data.toList) : BtInv r l (k + 1) u := by
  unfold BtInv at *
  rw [← h, drop_at hf, hu, fmtFac_data hv]
  simp [facsL]
theorem BtInv.done {r : Int} {l : List Factor} {k n : Nat} {s : ByteArray} (h : BtInv r l k s) (hl : Hid (l.length = n)) (hk : ¬ k < n) : s = bunT r l := by
  unfold BtInv at h
  rw [drop_end hl hk] at h
  apply bext
  simpa [facsL] using h
theorem bunL_vld {r : Int} : ∀ {l : List Factor} {p : Option Int}, bunL r l p = true → ∀ f ∈ l, vldFactor f = true
  | [], _, _, f, hf => by cases hf
  | g :: l, p, h, f, hf => by
    simp only [bunL, Bool.and_eq_true] at h
    rcases List.mem_cons.1 hf with rfl | hf
    · exact h.1
    · exact bunL_vld h.2.2.2 f hf
theorem isBundle_parts {r : Int} {l : List Factor} (h : isBundle r l = true) : 0 ≤ r ∧ r ≤ 2 ∧ l.length ≤ 4 ∧ ∀ f ∈ l, vldFactor f = true := by
  simp only [isBundle, Bool.and_eq_true] at h
  obtain ⟨h1, h2, h3⟩ := h
  have := inR_iff.1 h1; have := inR_iff.1 h2
  exact ⟨by omega, by omega, by omega, bunL_vld h3⟩
/-- what is left of a journal, at a round's head -/
def JrInv (l : List Entry) (k : Nat) (p : Int) (s : ByteArray) : Prop := jrn l 1 ⟨#[]⟩ = jrn (l.drop k) p s
theorem JrInv.next {l : List Entry} {k : Nat} {e : Entry} {p : Int} {s : ByteArray} (h : JrInv l k p s) (hf : Hid (l[k]? = some e)) (hv : (vldEntry e && inR p 0 65520) = true) : JrInv l (k + 1) (entSum e p) (s ++ entT e p) := by
  unfold JrInv at *
  rw [h, drop_at hf, jrn, if_pos hv]
theorem JrInv.bad {l : List Entry} {k : Nat} {e : Entry} {p : Int} {s : ByteArray} (h : JrInv l k p s) (hf : Hid (l[k]? = some e)) (hv : (vldEntry e && inR p 0 65520) = false) : jrn l 1 ⟨#[]⟩ = ⟨#[]⟩ := by
  unfold JrInv at *
  rw [h, drop_at hf, jrn, if_neg (by simp [hv])]
theorem JrInv.done {l : List Entry} {k n : Nat} {p : Int} {s : ByteArray} (h : JrInv l k p s) (hl : Hid (l.length = n)) (hk : ¬ k < n) : jrn l 1 ⟨#[]⟩ = s := by
  unfold JrInv at h
  rw [h, drop_end hl hk, jrn]
end Go.Proofs.YtebcdjpddoaajaaDoor

/- The bundle whose text is given; what the parts of such a text are. Plain. -/
namespace Go.Proofs.YtebcdjpddoaajaaDoor
open Go.RowKit
set_option linter.unusedVariables false
set_option linter.unusedSimpArgs false
set_option maxRecDepth 100000
/-- words, with the sign between them -/
def joinL (c : UInt8) : List (List UInt8) → List UInt8
  | [] => []
  | [a] => a
  | a :: b :: l => a ++ c :: joinL c (b :: l)
theorem joinL_cons (c : UInt8) (a : List UInt8) {l : List (List UInt8)} (h : l ≠ []) : joinL c (a :: l) = a ++ c :: joinL c l := by
  cases l with
  | nil => exact absurd rfl h
  | cons b l => rfl
theorem joinL_split (c : UInt8) : ∀ (l cur : List UInt8), joinL c (splitL (isB c) cur l) = cur ++ l
  | [], cur => by simp [splitL, joinL]
  | b :: l, cur => by
    rw [splitL]
    split
    · rename_i hb
      have hb : b = c := by simpa [isB] using hb
      rw [joinL_cons _ _ (splitL_ne _ _ _), joinL_split c l [], hb]
      rfl
    · rw [joinL_split c l (cur ++ [b])]
      simp
theorem joinL_flat (c : UInt8) : ∀ (T : List (List UInt8)) (a : List UInt8), joinL c (a :: T) = a ++ T.flatMap (fun x => c :: x)
  | [], a => by simp [joinL]
  | b :: T, a => by
    rw [joinL_cons _ _ (by simp), joinL_flat c T b]
    simp
theorem fac_no {f : Factor} (h : vldFactor f = true) {c : UInt8} (hc : c = 59 ∨ c = 10 ∨ c = 35) : ∀ b ∈ facL f, isB c b = false := by
  obtain ⟨h1, h2, h3, h4, h5, h6, h7⟩ := vld_parts h
  have hc' : c = 44 ∨ c = 32 ∨ c = 59 ∨ c = 10 ∨ c = 35 := .inr (.inr hc)
  have h32 : isB c 32 = false := by rcases hc with rfl | rfl | rfl <;> decide
  intro b hb
  unfold facL at hb
  simp only [List.mem_append, List.mem_cons] at hb
  rcases hb with hb | rfl | hb | rfl | hb | hb | rfl | hb | rfl | hb
  · exact wd_no hc' (kind_wd _ _ hb)
  · exact h32
  · exact wd_no hc' (itoa_wd _ _ hb)
  · exact h32
  · unfold frmL at hb
    split at hb
    · simp at hb
    · rename_i hk
      simp only [List.mem_append, List.mem_cons, List.not_mem_nil, or_false] at hb
      rcases hb with hb | rfl
      · exact wd_no hc' (nm_wd (h6 hk) _ hb)
      · exact h32
  · exact wd_no hc' (to_wd h _ hb)
  · exact h32
  · exact pose_no32 h3 (.inr hc) _ hb
  · exact h32
  · exact wd_no hc' (itoa_wd _ _ hb)
theorem facs_split : ∀ (l : List Factor) (w : List UInt8), (∀ b ∈ w, isB 59 b = false) → (∀ f ∈ l, vldFactor f = true) → splitL (isB 59) [] (w ++ facsL l) = w :: l.map facL
  | [], w, hw, _ => by
    show splitL (isB 59) [] (w ++ []) = _
    rw [List.append_nil, splitL_last _ _ hw]; rfl
  | f :: l, w, hw, hl => by
    show splitL (isB 59) [] (w ++ 59 :: (facL f ++ facsL l)) = _
    rw [splitL_word (isB_self 59) _ _ _ hw, facs_split l (facL f) (fac_no (hl f (by simp)) (by simp)) (fun g hg => hl g (by simp [hg]))]
    rfl
theorem facs_flat : ∀ l : List Factor, facsL l = (l.map facL).flatMap (fun x => 59 :: x)
  | [] => rfl
  | f :: l => by
    show 59 :: (facL f ++ facsL l) = _
    rw [facs_flat l]; simp
def bunL0 : List UInt8 := [98, 117, 110, 100, 108, 101, 32]
def BunOf (s : ByteArray) (b : Bundle) : Prop := isBundle b.robot b.factors = true ∧ bunT b.robot b.factors = s
theorem bun_data (r : Int) (l : List Factor) : (bunT r l).data.toList = (bunL0 ++ Lib.itoa r) ++ facsL l := by
  unfold bunT bunL0; simp
theorem head_no (r : Int) : ∀ b ∈ bunL0 ++ Lib.itoa r, isB 59 b = false := by
  intro b hb
  rcases List.mem_append.1 hb with hb | hb
  · have : ∀ b ∈ bunL0, isB 59 b = false := by decide
    exact this b hb
  · exact wd_no (by simp) (itoa_wd _ _ hb)
theorem map_some {α : Type} {T : List ByteArray} {l : List α} {p : ByteArray → Option α} {t : α → List UInt8} (hT : T.map (fun x => x.data.toList) = l.map t) (hp : ∀ a ∈ l, ∀ x : ByteArray, x.data.toList = t a → p x = some a) : T.map p = l.map some := by
  induction T generalizing l with
  | nil => cases l with
    | nil => rfl
    | cons a l => cases hT
  | cons x T ih => cases l with
    | nil => cases hT
    | cons a l =>
      simp only [List.map_cons, List.cons.injEq] at hT ⊢
      exact ⟨hp a (by simp) x hT.1, ih hT.2 fun b hb => hp b (by simp [hb])⟩
theorem bun_words {s : ByteArray} {b : Bundle} {L : List ByteArray} (h : BunOf s b) (hL : L.map (fun x => x.data.toList) = splitL (isB 59) [] s.data.toList) :
    ∃ w0 T, L = w0 :: T ∧ w0.data.toList = bunL0 ++ Lib.itoa b.robot ∧ T.map psFac = b.factors.map some := by
  obtain ⟨_, _, _, hv⟩ := isBundle_parts h.1
  rw [← h.2, bun_data, facs_split _ _ (head_no _) hv] at hL
  cases L with
  | nil => cases hL
  | cons w0 T =>
    simp only [List.map_cons, List.cons.injEq] at hL
    exact ⟨w0, T, rfl, hL.1, map_some hL.2 fun f hf x hx => psFac_some ⟨hv f hf, hx.symm⟩⟩
theorem map_text {α : Type} {T : List ByteArray} {l : List α} {p : ByteArray → Option α} {t : α → List UInt8} (hT : T.map p = l.map some) (hp : ∀ a x, p x = some a → t a = x.data.toList) : T.map (fun x => x.data.toList) = l.map t := by
  induction T generalizing l with
  | nil => cases l with
    | nil => rfl
    | cons a l => cases hT
  | cons x T ih => cases l with
    | nil => cases hT
    | cons a l =>
      simp only [List.map_cons, List.cons.injEq] at hT ⊢
      exact ⟨(hp a x hT.1).symm, ih hT.2⟩
/-- a text that falls into such parts is that of the bundle -/
theorem bun_of {s w0 : ByteArray} {T : List ByteArray} {r : Int} {l : List Factor} (hL : (w0 :: T).map (fun x => x.data.toList) = splitL (isB 59) [] s.data.toList) (h0 : w0.data.toList = bunL0 ++ Lib.itoa r) (hT : T.map psFac = l.map some) : bunT r l = s := by
  apply bext
  have hj := joinL_split 59 s.data.toList []
  have hT' := map_text (t := facL) hT fun a x h => (psFac_text h).2
  rw [← hL, List.map_cons, h0, hT', joinL_flat, List.nil_append, ← facs_flat] at hj
  rw [bun_data, hj]
theorem map_some_inj {α : Type} {l m : List α} (h : l.map some = m.map some) : l = m := by
  have := congrArg (List.filterMap id) h
  simpa using this
theorem bun_one {s : ByteArray} {b c : Bundle} (h : BunOf s b) (k : BunOf s c) : b = c := by
  obtain ⟨L, hL⟩ := words_of s 59
  obtain ⟨w0, T, rfl, h0, hT⟩ := bun_words h hL
  obtain ⟨v0, U, e, k0, kT⟩ := bun_words k hL
  simp only [List.cons.injEq] at e
  obtain ⟨rfl, rfl⟩ := e
  rw [hT] at kT
  have hl := map_some_inj kT
  have hr : Lib.itoa b.robot = Lib.itoa c.robot := List.append_cancel_left (h0.symm.trans k0)
  have r1 := isBundle_parts h.1
  have r2 := isBundle_parts k.1
  have hr := itoa_inj (by omega) (by omega) (by omega) (by omega) hr
  obtain ⟨br, bl⟩ := b
  obtain ⟨cr, cl⟩ := c
  simp only at hl hr
  rw [hl, hr]
noncomputable def psBun (s : ByteArray) : Option Bundle := the (BunOf s)
theorem psBun_some {s : ByteArray} {p : Bundle} (h : BunOf s p) : psBun s = some p := the_some (fun q hq => bun_one hq h) h
theorem psBun_none {s : ByteArray} (h : ∀ p, ¬ BunOf s p) : psBun s = none := the_none h
theorem psBun_text {s : ByteArray} {p : Bundle} (h : psBun s = some p) : BunOf s p := the_text h
/-- the last word of the first part -/
theorem bun_head {w0 : ByteArray} {r : Int} {L : List ByteArray} (h0 : w0.data.toList = bunL0 ++ Lib.itoa r) (hL : L.map (fun x => x.data.toList) = splitL (isB 32) [] w0.data.toList) : ∃ a, L = [a, itoaB r] := by
  have e : w0.data.toList = [98, 117, 110, 100, 108, 101] ++ 32 :: Lib.itoa r := by rw [h0]; rfl
  rw [e, splitL_word (isB_self 32) _ _ _ (by decide), splitL_last _ _ (no_of (by simp) (itoa_wd _))] at hL
  rcases L with _ | ⟨a, _ | ⟨b, _ | ⟨c, L⟩⟩⟩
  all_goals simp only [List.map_cons, List.map_nil, List.nil_append, List.cons.injEq, reduceCtorEq, and_false, and_true, List.nil_eq, List.cons_ne_nil] at hL
  exact ⟨a, by rw [show b = itoaB r from bext (by rw [hL.2]; simp [itoaB])]⟩
end Go.Proofs.YtebcdjpddoaajaaDoor
