/- Texts of this proof, one behind the other: Law, EntryS, Mark2, Flat, Split, IsDig, PrsI. -/
import Derived.ProofKit
import Derived.OpenShut
import Derived.Carry
import Derived.Deep.Slices
import Derived.Test.YtebcdjpddoaajaaGreatDoorProg
import Derived.BigQuiet
import Derived.Lib.Strings
import Derived.Test.YtebcdjpddoaajaaGreatDoorGs1
import Derived.Test.YtebcdjpddoaajaaGreatDoorGs3
import Derived.Test.YtebcdjpddoaajaaGreatDoorGs5
import Derived.Test.YtebcdjpddoaajaaGreatDoorGs7
import Derived.Test.YtebcdjpddoaajaaGreatDoorGs8
/- From a walk to a law's statement: how arguments are opened, and what is owed behind the call. No program in sight. -/
namespace Go.Proofs.YtebcdjpddoaajaaGreatDoor
open Go.ChangeShapes Go.WideShapes Go.ChangeAt Go.RowKit Go.Deep
set_option linter.unusedVariables false
set_option linter.unusedSimpArgs false

section
variable {H : Type} {enc : TypeId × Value → H} {P : Program}

theorem trodAll_below (hl : laidOutB P = true) {W W' : World} {sp : Nat → Bool} (hb : Below W.heap.size W W') : ∀ (ts : List TypeId) (vs : List Value) (ds : List (DataW H)) (ps : List MemPlace),
    ts.all (fun t => P.readableRec t && decide (t < P.types.size)) = true → DataW.TrodAll enc P W 0 (fun _ => true) true ts vs ds ps → (∀ x ∈ ps, x.block < W.heap.size) → (∀ x ∈ ps, sp x.block = true) → DataW.TrodAll enc P W' 0 sp true ts vs ds ps
  | [], vs, ds, ps, _, h, _, _ => by
    obtain ⟨rfl, rfl, rfl⟩ := trodAll_nil h
    exact trodAll_mk0
  | t :: ts, vs, ds, ps, ht, h, hlt, hs => by
    obtain ⟨v, vs', d, ds', p, q, rfl, rfl, rfl, h1, h2⟩ := trodAll_cons h
    simp only [List.all_cons, Bool.and_eq_true, decide_eq_true_eq] at ht
    exact trodAll_cons_mk (WideElems.Trod_stays hl ht.1.1 ht.1.2 h1 (fun x hx => hb.same (hlt x (by simp [hx]))) (fun x hx => hs x (by simp [hx])))
      (trodAll_below hl hb ts vs' ds' q ht.2 h2 (fun x hx => hlt x (by simp [hx])) (fun x hx => hs x (by simp [hx])))

theorem law_post (hl : laidOutB P = true) {f : Func} {s : ChangeSpec} {W W' : World} {args : Array Value} {ds : List (DataW H)} {before : List MemPlace} {tb : TypeId}
    (hp : f.params.toList.all (fun t => P.readableRec t && decide (t < P.types.size)) = true) (hrt : f.resultTypes = #[tb]) (htb : P.underlying tb = some .bool) (hvars : s.vars = [])
    (hW : DataW.Whole enc P f.params.toList s.vars false W args.toList ds [] before) (hs : s.fn H (ds ++ []) = { results := [.lit (.bool true)], args := ds }) (hb : Below W.heap.size W W') :
    s.post enc P f false true false false W args (.bool true) W' := by
  have hlt : ∀ p ∈ before, p.block < W.heap.size := fun p hp => hW.lt p hp
  have hW0 := hW
  obtain ⟨p, q, hA, hV, rfl, hz, hn⟩ := hW
  rw [hvars] at hV
  have hq : q = [] := hV
  subst hq
  refine ⟨ds, [], p ++ [], [], p, [], hW0, ?_, ?_, ?_, hb.frame _, fun h => by cases h⟩
  · rw [hs, hrt]
    exact trodAll_cons_mk (p := []) (p' := []) (shut_bool htb _) trodAll_mk0
  · rw [hs]
    exact trodAll_below hl hb _ _ _ _ hp hA (fun x hx => hlt x (by simp [hx])) (fun x hx => by simpa using hlt x (by simp [hx]))
  · rw [hs, hvars]
    rfl

/-! ### what the arguments are made of -/
/-- cells that read as a value of type t are good -/
def Opens (P : Program) (w : World) (t : TypeId) (good : List Value → Prop) : Prop :=
  ∀ (H : Type) (enc : TypeId × Value → H) (base fuel : Nat) (spare : Nat → Bool) (held : Bool) (cs : List Value) (x : DataW H × List MemPlace), DataW.trod enc P w base spare held fuel t cs = some x → good cs
def gInt (cs : List Value) : Prop := ∃ n : Int, cs = [.int .i64 n] ∧ (Lit.int .i64 n).wf = true
def gStr (cs : List Value) : Prop := ∃ s : ByteArray, cs = [.string s] ∧ s.size ≤ maxLen
def gBool (cs : List Value) : Prop := ∃ b : Bool, cs = [.bool b]
theorem opens_int {w : World} {t : TypeId} (ht : P.underlying t = some (.int .i64)) : Opens P w t gInt := fun H enc base fuel spare held cs x h => by
  obtain ⟨n, rfl, _, hw⟩ := DataW.trod_int ht h
  exact ⟨n, rfl, hw⟩
theorem opens_str {w : World} {t : TypeId} (ht : P.underlying t = some .string) : Opens P w t gStr := fun H enc base fuel spare held cs x h => by
  obtain ⟨n, rfl, _, hw⟩ := DataW.trod_string ht h
  exact ⟨n, rfl, hw⟩
theorem opens_bool {w : World} {t : TypeId} (ht : P.underlying t = some .bool) : Opens P w t gBool := fun H enc base fuel spare held cs x h => by
  obtain ⟨n, rfl, _⟩ := DataW.trod_bool ht h
  exact ⟨n, rfl⟩
/-- a struct, field by field -/
theorem opens_field {w : World} {t : TypeId} {fs : Array Field} (ht : P.underlying t = some (.struct fs)) {H : Type} {enc : TypeId × Value → H} {base fuel : Nat} {spare : Nat → Bool} {held : Bool} {cs : List Value} {x : DataW H × List MemPlace}
    (h : DataW.trod enc P w base spare held fuel t cs = some x) : cs.length = P.cellsOf t ∧ ∀ (j : Nat) (f : Field) (good : List Value → Prop), fs[j]? = some f → Opens P w f.type good → good ((cs.drop f.offset).take (P.cellsOf f.type)) := by
  obtain ⟨xs, n, _, _, hl, hlen, hf⟩ := DataW.trod_struct ht h
  refine ⟨hl, fun j f good hj ho => ?_⟩
  have h1 := hf j f hj
  have hjl : j < fs.size := (Array.getElem?_eq_some_iff.1 hj).1
  cases hx : xs[j]? with
  | none => rw [List.getElem?_eq_none_iff] at hx; omega
  | some y => rw [hx] at h1; exact ho _ _ _ _ _ _ _ _ h1
/-- a slice: nil, or cells that are good, element by element -/
def gSlice (w : World) (sz : Nat) (good : List Value → Prop) (cs : List Value) : Prop :=
  ∃ (A : Option Addr) (n c : Nat) (css : List (List Value)), cs = [.slice A n c] ∧ n ≤ c ∧ c ≤ maxLen ∧ Row w A n sz css ∧ ∀ es ∈ css, es.length = sz ∧ good es
theorem opens_slice {w : World} {t e : TypeId} {sz : Nat} {good : List Value → Prop} (ht : P.underlying t = some (.slice e)) (hsz : P.cellsOf e = sz) (he : Opens P w e good)  (hs : 0 < sz) : Opens P w t (gSlice w sz good) := fun H enc base fuel spare held cs x h => by
  rcases open_slice ht h with ⟨rfl, _⟩ | ⟨a, len, cap, m, n, D, Pl, rfl, _, hl, hm, hmm, _, hi⟩
  · exact ⟨none, 0, 0, [], rfl, Nat.le_refl _, Nat.zero_le _, ⟨rfl, by simp⟩, by simp⟩
  · have hlm : len ≤ m := by rw [hmm]; split <;> omega
    have key : ∀ i, i < len → ∃ cs', w.cells? base (a.add (i * P.cellsOf e)) (P.cellsOf e) = some cs' ∧ good cs' := fun i hil => by
      obtain ⟨cs', h1, h2⟩ := hi i (by omega)
      exact ⟨cs', h1, he _ _ _ _ _ _ _ _ h2⟩
    subst hsz
    have hF : ∃ F : Nat → List Value, ∀ i, i < len → w.cells? base (a.add (i * P.cellsOf e)) (P.cellsOf e) = some (F i) ∧ good (F i) :=
      ⟨fun i => if h : i < len then Classical.choose (key i h) else [], fun i hil => by
        simp only [hil, dif_pos]
        exact Classical.choose_spec (key i hil)⟩
    obtain ⟨F, hF⟩ := hF
    refine ⟨some a, len, cap, (List.range len).map F, rfl, hl, hm, ⟨by simp, fun i cs hi => ?_⟩, fun es hes => ?_⟩
    · obtain ⟨h1, h2⟩ := List.getElem?_eq_some_iff.1 hi
      simp only [List.length_map, List.length_range] at h1
      simp only [List.getElem_map, List.getElem_range] at h2
      subst h2
      have hc := World.cells?_some (hF i h1).1
      have hsp : a.spot = none := by
        have h0 := (World.cells?_some (hF 0 (by omega)).1).2.2 0 hs
        have hlen0 := (World.cells?_some (hF 0 (by omega)).1).2.1
        rw [List.getElem?_eq_getElem (by omega)] at h0
        have e1 : (a.add (0 * P.cellsOf e)).add 0 = a := by simp [Addr.add]
        rw [e1] at h0
        unfold World.cell? at h0
        split at h0
        · split at h0
          · cases h0
          · rename_i hn; simpa using hn
        · cases h0
      obtain ⟨g, off, sp⟩ := a
      simp only at hsp
      subst hsp
      refine ⟨g, off, rfl, fun j v hv => ?_⟩
      have hj : j < P.cellsOf e := by rw [← hc.2.1]; exact (List.getElem?_eq_some_iff.1 hv).1
      have := hc.2.2 j hj
      rw [Addr.add_lit, Addr.add_lit] at this
      rw [this, hv]
    · obtain ⟨i, hi, rfl⟩ := List.mem_map.1 hes
      have hil : i < len := by simpa using hi
      exact ⟨(World.cells?_some (hF i hil).1).2.1, (hF i hil).2⟩
end

/-! ### from good cells to data -/
theorem list_of {α : Type} {c : α → List Value} {ok : α → Prop} : ∀ (css : List (List Value)), (∀ es ∈ css, ∃ f, es = c f ∧ ok f) → ∃ l : List α, css = l.map c ∧ ∀ f ∈ l, ok f
  | [], _ => ⟨[], rfl, by simp⟩
  | e :: r, h => by
    obtain ⟨f, rfl, hf⟩ := h e (by simp)
    obtain ⟨l, rfl, hl⟩ := list_of r (fun es hes => h es (by simp [hes]))
    exact ⟨f :: l, rfl, by simpa using ⟨hf, hl⟩⟩
theorem len1 {l : List Value} (h : l.length = 1) : ∃ a, l = [a] := by
  match l, h with
  | [a], _ => exact ⟨a, rfl⟩
theorem len2 {l : List Value} (h : l.length = 2) : ∃ a b, l = [a, b] := by
  match l, h with
  | [a, b], _ => exact ⟨a, b, rfl⟩
theorem len3 {l : List Value} (h : l.length = 3) : ∃ a b c, l = [a, b, c] := by
  match l, h with
  | [a, b, c], _ => exact ⟨a, b, c, rfl⟩
theorem len4 {l : List Value} (h : l.length = 4) : ∃ a b c d, l = [a, b, c, d] := by
  match l, h with
  | [a, b, c, d], _ => exact ⟨a, b, c, d, rfl⟩
theorem len6 {l : List Value} (h : l.length = 6) : ∃ a b c d e f, l = [a, b, c, d, e, f] := by
  match l, h with
  | [a, b, c, d, e, f], _ => exact ⟨a, b, c, d, e, f, rfl⟩
theorem len8 {l : List Value} (h : l.length = 8) : ∃ a b c d e f g i, l = [a, b, c, d, e, f, g, i] := by
  match l, h with
  | [a, b, c, d, e, f, g, i], _ => exact ⟨a, b, c, d, e, f, g, i, rfl⟩
theorem len10 {l : List Value} (h : l.length = 10) : ∃ a b c d e f g i j k, l = [a, b, c, d, e, f, g, i, j, k] := by
  match l, h with
  | [a, b, c, d, e, f, g, i, j, k], _ => exact ⟨a, b, c, d, e, f, g, i, j, k, rfl⟩
theorem arr_of {cs : Array Value} {l : List Value} (h : cs.toList = l) : cs = l.toArray := by rw [← h]
def wfI (n : Int) : Prop := (Lit.int .i64 n).wf = true
/-- what an argument's factor is known to be -/
def Factor.ok (f : Factor) : Prop := f.frm.size ≤ maxLen ∧ f.to.size ≤ maxLen ∧ wfI f.id ∧ wfI f.kind ∧ wfI f.pose.turn ∧ wfI f.pose.x ∧ wfI f.pose.y ∧ wfI f.weight
def Place.ok (f : Place) : Prop := f.name.size ≤ maxLen ∧ wfI f.bits
def Packet.ok (f : Packet) : Prop := f.text.size ≤ maxLen ∧ wfI f.number ∧ wfI f.sum
def gPose (cs : List Value) : Prop := ∃ p : Pose, cs = [.int .i64 p.turn, .int .i64 p.x, .int .i64 p.y] ∧ wfI p.turn ∧ wfI p.x ∧ wfI p.y
def gFactor (cs : List Value) : Prop := ∃ f : Factor, cs = f.cells ∧ f.ok
def gPlace (cs : List Value) : Prop := ∃ f : Place, cs = f.cells ∧ f.ok
def gPacket (cs : List Value) : Prop := ∃ f : Packet, cs = f.cells ∧ f.ok
theorem okFactor {l : List Factor} (h : ∀ f ∈ l, f.ok) : ∀ f ∈ l, f.frm.size ≤ maxLen ∧ f.to.size ≤ maxLen := fun f hf => ⟨(h f hf).1, (h f hf).2.1⟩
theorem okPlace {l : List Place} (h : ∀ f ∈ l, f.ok) : ∀ f ∈ l, f.name.size ≤ maxLen := fun f hf => (h f hf).1
theorem okPacket {l : List Packet} (h : ∀ f ∈ l, f.ok) : ∀ f ∈ l, f.text.size ≤ maxLen := fun f hf => (h f hf).1
theorem smallP {l : List Place} (h : Hid (sumBulk Place.bulk l ≤ 1048576)) : ∀ p ∈ l, p.name.size ≤ 1048576 := fun p hp => by
  have h1 := mem_bulk (c := Place.bulk) hp
  have h2 := h.out
  simp only [Place.bulk] at h1; omega
theorem smallF {l : List Factor} (h : Hid (sumBulk Factor.bulk l ≤ 1048576)) : ∀ f ∈ l, f.frm.size ≤ 1048576 ∧ f.to.size ≤ 1048576 := fun p hp => by
  have h1 := mem_bulk (c := Factor.bulk) hp
  have h2 := h.out
  simp only [Factor.bulk] at h1; omega
end Go.Proofs.YtebcdjpddoaajaaGreatDoor

/- The laws' helpers on slices of entries. -/
namespace Go.Proofs.YtebcdjpddoaajaaGreatDoor
open Go.RowKit
set_option linter.unusedVariables false
set_option linter.unusedSimpArgs false
set_option maxHeartbeats 1000000
def Entry.cells (f : Entry) : List Value := .bool f.remove :: .int .i64 f.id :: f.factor.cells
def Entry.bulk (f : Entry) : Nat := f.factor.bulk
abbrev RowN (w : World) (A : Option Addr) (n : Nat) (l : List Entry) : Prop := Row w A n 10 (l.map Entry.cells)
theorem RowN.at_ {w : World} {A : Option Addr} {n : Nat} {l : List Entry} (h : RowN w A n l) {k : Nat} (hk : k < n) :
    ∃ (f : Entry) (g off : Nat), Hid (l[k]? = some f) ∧ A = some ⟨g, off, none⟩ ∧ w.cell? ⟨g, off + k * 10, none⟩ = some (.bool f.remove) ∧ w.cell? ⟨g, off + k * 10 + 1, none⟩ = some (.int .i64 f.id) ∧ w.cell? ⟨g, off + k * 10 + 2, none⟩ = some (.int .i64 f.factor.id) ∧ w.cell? ⟨g, off + k * 10 + 3, none⟩ = some (.int .i64 f.factor.kind) ∧ w.cell? ⟨g, off + k * 10 + 4, none⟩ = some (.string f.factor.frm) ∧ w.cell? ⟨g, off + k * 10 + 5, none⟩ = some (.string f.factor.to) ∧
      w.cell? ⟨g, off + k * 10 + 6, none⟩ = some (.int .i64 f.factor.pose.turn) ∧ w.cell? ⟨g, off + k * 10 + 7, none⟩ = some (.int .i64 f.factor.pose.x) ∧ w.cell? ⟨g, off + k * 10 + 8, none⟩ = some (.int .i64 f.factor.pose.y) ∧ w.cell? ⟨g, off + k * 10 + 9, none⟩ = some (.int .i64 f.factor.weight) := by
  obtain ⟨f, g, off, hf, hA, hc⟩ := Row.at_ h hk
  exact ⟨f, g, off, hf, hA, hc 0 _ rfl, hc 1 _ rfl, hc 2 _ rfl, hc 3 _ rfl, hc 4 _ rfl, hc 5 _ rfl, hc 6 _ rfl, hc 7 _ rfl, hc 8 _ rfl, hc 9 _ rfl⟩
end Go.Proofs.YtebcdjpddoaajaaGreatDoor

/- The laws' own marks, at further element types. -/
namespace Go.Proofs.YtebcdjpddoaajaaGreatDoor
open Go.RowKit
set_option linter.unusedVariables false
set_option linter.unusedSimpArgs false
set_option maxHeartbeats 1600000
theorem sz_bool : (Tryz.prog.info? 4).map (·.size) = some 1 := by kernel_rfl
theorem vlen10 {l : List Value} (h : l.length = 10) : ∃ a b c d e f g i j k, l = [a, b, c, d, e, f, g, i, j, k] := by
  match l, h with
  | [a, b, c, d, e, f, g, i, j, k], _ => exact ⟨a, b, c, d, e, f, g, i, j, k, rfl⟩









end Go.Proofs.YtebcdjpddoaajaaGreatDoor

/- The laws' helpers on flat slices: a slice value, what it reads as, its footprint. -/
namespace Go.Proofs.YtebcdjpddoaajaaGreatDoor
open Go.RowKit
set_option linter.unusedVariables false
set_option linter.unusedSimpArgs false
def Entry.ok (f : Entry) : Prop := wfI f.id ∧ f.factor.ok
theorem okEntry {l : List Entry} (h : ∀ f ∈ l, f.ok) : ∀ f ∈ l, f.factor.frm.size ≤ maxLen ∧ f.factor.to.size ≤ maxLen := fun f hf => ⟨(h f hf).2.1, (h f hf).2.2.1⟩

/-! ### FactorS -/
def RdF (w : World) (v : Sv) (l : List Factor) : Prop := Row w v.A v.n 8 (l.map Factor.cells)
def fpF (v : Sv) : List Nat := obl v.A
def lenF (v : Sv) : Prop := v.n ≤ maxLen
def okF (l : List Factor) : Prop := ∀ x ∈ l, Factor.ok x
def bulkF (l : List Factor) : Nat := l.length + sumBulk Factor.bulk l
def fewF (l : List Factor) : Prop := l.length ≤ 1048576
theorem fewF_of {l : List Factor} (h : bulkF l ≤ 1048576) : fewF l := by unfold bulkF at h; unfold fewF; omega
def cntF (l : List Factor) : Nat := 8 * l.length
theorem cntF_few {l : List Factor} (h : fewF l) : (cntF l : Int) ≤ 20000000 := by unfold cntF; unfold fewF at h; omega
def mkEF (k : Int) : Factor := ⟨k, k + 1, markTxt (k + 2), markTxt (k + 3), ⟨k + 4, k + 5, k + 6⟩, k + 7⟩
def mkF (k : Int) (l : List Factor) : List Factor := (List.range l.length).map fun (i : Nat) => mkEF (k + 8 * (i : Int))
theorem RdF.below {w w' : World} {v : Sv} {l : List Factor} (h : RdF w v l) (hb : Below w.heap.size w w') : RdF w' v l := Row.below h hb
theorem RdF.len {w : World} {v : Sv} {l : List Factor} (h : RdF w v l) : Hid (l.length = v.n) := Row.len h
theorem mkF_len (k : Int) (l : List Factor) : (mkF k l).length = l.length := by simp [mkF]
theorem cntF_le (l : List Factor) : cntF l ≤ 8 * bulkF l := by unfold cntF bulkF; omega
def OwF (w : World) (v : Sv) (l : List Factor) : Prop := Own w 0 38 8 v.A v.n v.c (l.map Factor.cells)
theorem OwF.own {w : World} {v : Sv} {l : List Factor} (h : OwF w v l) : Own w 0 38 8 v.A v.n v.c (l.map Factor.cells) := h
theorem OwF.rd {w : World} {v : Sv} {l : List Factor} (h : OwF w v l) : RdF w v l := Own.row h
theorem OwF.lt {w : World} {v : Sv} {l : List Factor} (h : OwF w v l) : ∀ k ∈ fpF v, k < w.heap.size := fun k hk => (Own.lt h k (mem_obl.1 hk)).2
theorem OwF.keep {w w' : World} {v : Sv} {l : List Factor} (h : OwF w v l) (hw : ∀ k ∈ fpF v, w'.heap[k]? = w.heap[k]?) : OwF w' v l := Own.keep h fun g hg => hw g (mem_obl.2 hg)
theorem OwF.below {w w' : World} {v : Sv} {l : List Factor} (h : OwF w v l) (hb : Below w.heap.size w w') : OwF w' v l := h.keep fun k hk => hb.block k (h.lt k hk)
theorem OwF.upd {w w' : World} {v : Sv} {l : List Factor} {fs : List Nat} (h : OwF w v l) (hu : Upd fs w w') (hd : ∀ k ∈ fpF v, k ∉ fs) : OwF w' v l := h.keep fun k hk => hu.block k (h.lt k hk) (hd k hk)
theorem eqFactorS_k (v v2 : Sv) (l : List Factor) (w : World) (hm : fewF l) (hr : RdF w v l) (hr2 : RdF w v2 l) :
    Calls Tryz.prog 7 #[.slice v.A v.n v.c, .slice v2.A v2.n v2.c] w fun e w' => e = rBool true ∧ Below w.heap.size w w' := by
  have e : v2.n = v.n := hr2.len.out.symm.trans hr.len.out
  obtain ⟨A2, n2, c2⟩ := v2
  dsimp only at e hr2
  subst e
  exact eqFactorS_c v.A A2 v.n v.c c2 l w (by have := hr.len.out; unfold fewF at hm; omega) hr hr2
theorem mkF_cells {k : Int} {l : List Factor} {n : Nat} (h : Hid (l.length = n)) : (mkF k l).map Factor.cells = (List.range n).map (markFactor k) := by
  rw [← h.out]
  simp only [mkF, List.map_map]
  rfl
theorem markFactorS_k (v : Sv) (l : List Factor) (k0 : Int) (w : World) (hk0 : 0 ≤ k0) (hk1 : k0 ≤ 10000000000) (hm : fewF l) (ho : OwF w v l) (hnd : (fpF v).Nodup) :
    Calls Tryz.prog 8 #[.slice v.A v.n v.c, .int .i64 k0] w fun e w' => e = rInt (k0 + cntF l) ∧ OwF w' v (mkF k0 l) ∧ Upd (fpF v) w w' :=
  (markFactorS_c v.A v.n v.c 0 _ k0 w (by have := ho.rd.len.out; unfold fewF at hm; omega) hk0 (by omega) ho).mono fun e w' ⟨h1, h2, h3⟩ => ⟨by rw [h1]; unfold cntF; rw [ho.rd.len.out]; push_cast; rfl, by unfold OwF; rw [mkF_cells ho.rd.len]; exact h2, Upd.of_row h3⟩
theorem heldFactorS_k (v : Sv) (l : List Factor) (k0 : Int) (w : World) (hk0 : 0 ≤ k0) (hk1 : k0 ≤ 10000000000) (hm : fewF l) (hr : RdF w v (mkF k0 l)) :
    Calls Tryz.prog 9 #[.slice v.A v.n v.c, .int .i64 k0] w fun e w' => e = rInt (k0 + cntF l) ∧ Below w.heap.size w w' := by
  have e : Hid (l.length = v.n) := by have := hr.len.out; rw [mkF_len] at this; exact this
  refine (heldFactorS_c v.A v.n v.c k0 w (by have := e.out; unfold fewF at hm; omega) hk0 (by omega) (by rw [← mkF_cells e]; exact hr)).mono fun e' w' ⟨h1, h2⟩ => ⟨by rw [h1]; unfold cntF; rw [e.out]; push_cast; rfl, h2⟩

/-! ### PlaceS -/
def RdP (w : World) (v : Sv) (l : List Place) : Prop := Row w v.A v.n 2 (l.map Place.cells)
def fpP (v : Sv) : List Nat := obl v.A
def lenP (v : Sv) : Prop := v.n ≤ maxLen
def okP (l : List Place) : Prop := ∀ x ∈ l, Place.ok x
def bulkP (l : List Place) : Nat := l.length + sumBulk Place.bulk l
def fewP (l : List Place) : Prop := l.length ≤ 1048576
theorem fewP_of {l : List Place} (h : bulkP l ≤ 1048576) : fewP l := by unfold bulkP at h; unfold fewP; omega
def cntP (l : List Place) : Nat := 2 * l.length
theorem cntP_few {l : List Place} (h : fewP l) : (cntP l : Int) ≤ 20000000 := by unfold cntP; unfold fewP at h; omega
def mkEP (k : Int) : Place := ⟨markTxt k, k + 1⟩
def mkP (k : Int) (l : List Place) : List Place := (List.range l.length).map fun (i : Nat) => mkEP (k + 2 * (i : Int))
theorem RdP.below {w w' : World} {v : Sv} {l : List Place} (h : RdP w v l) (hb : Below w.heap.size w w') : RdP w' v l := Row.below h hb
theorem RdP.len {w : World} {v : Sv} {l : List Place} (h : RdP w v l) : Hid (l.length = v.n) := Row.len h
theorem mkP_len (k : Int) (l : List Place) : (mkP k l).length = l.length := by simp [mkP]
theorem cntP_le (l : List Place) : cntP l ≤ 2 * bulkP l := by unfold cntP bulkP; omega

/-! ### PacketS -/
def RdK (w : World) (v : Sv) (l : List Packet) : Prop := Row w v.A v.n 4 (l.map Packet.cells)
def fpK (v : Sv) : List Nat := obl v.A
def lenK (v : Sv) : Prop := v.n ≤ maxLen
def okK (l : List Packet) : Prop := ∀ x ∈ l, Packet.ok x
def bulkK (l : List Packet) : Nat := l.length + sumBulk Packet.bulk l
def fewK (l : List Packet) : Prop := l.length ≤ 1048576
theorem fewK_of {l : List Packet} (h : bulkK l ≤ 1048576) : fewK l := by unfold bulkK at h; unfold fewK; omega
def cntK (l : List Packet) : Nat := 4 * l.length
theorem cntK_few {l : List Packet} (h : fewK l) : (cntK l : Int) ≤ 20000000 := by unfold cntK; unfold fewK at h; omega
def mkEK (k : Int) : Packet := ⟨k % 3 == 0, k + 1, markTxt (k + 2), k + 3⟩
def mkK (k : Int) (l : List Packet) : List Packet := (List.range l.length).map fun (i : Nat) => mkEK (k + 4 * (i : Int))
theorem RdK.below {w w' : World} {v : Sv} {l : List Packet} (h : RdK w v l) (hb : Below w.heap.size w w') : RdK w' v l := Row.below h hb
theorem RdK.len {w : World} {v : Sv} {l : List Packet} (h : RdK w v l) : Hid (l.length = v.n) := Row.len h
theorem mkK_len (k : Int) (l : List Packet) : (mkK k l).length = l.length := by simp [mkK]
theorem cntK_le (l : List Packet) : cntK l ≤ 4 * bulkK l := by unfold cntK bulkK; omega
def OwK (w : World) (v : Sv) (l : List Packet) : Prop := Own w 0 126 4 v.A v.n v.c (l.map Packet.cells)
theorem OwK.own {w : World} {v : Sv} {l : List Packet} (h : OwK w v l) : Own w 0 126 4 v.A v.n v.c (l.map Packet.cells) := h
theorem OwK.rd {w : World} {v : Sv} {l : List Packet} (h : OwK w v l) : RdK w v l := Own.row h
theorem OwK.lt {w : World} {v : Sv} {l : List Packet} (h : OwK w v l) : ∀ k ∈ fpK v, k < w.heap.size := fun k hk => (Own.lt h k (mem_obl.1 hk)).2
theorem OwK.keep {w w' : World} {v : Sv} {l : List Packet} (h : OwK w v l) (hw : ∀ k ∈ fpK v, w'.heap[k]? = w.heap[k]?) : OwK w' v l := Own.keep h fun g hg => hw g (mem_obl.2 hg)
theorem OwK.below {w w' : World} {v : Sv} {l : List Packet} (h : OwK w v l) (hb : Below w.heap.size w w') : OwK w' v l := h.keep fun k hk => hb.block k (h.lt k hk)
theorem OwK.upd {w w' : World} {v : Sv} {l : List Packet} {fs : List Nat} (h : OwK w v l) (hu : Upd fs w w') (hd : ∀ k ∈ fpK v, k ∉ fs) : OwK w' v l := h.keep fun k hk => hu.block k (h.lt k hk) (hd k hk)

/-! ### StringS -/
def RdS (w : World) (v : Sv) (l : List ByteArray) : Prop := Row w v.A v.n 1 (l.map strCells)
def fpS (v : Sv) : List Nat := obl v.A
def lenS (v : Sv) : Prop := v.n ≤ maxLen
def okS (l : List ByteArray) : Prop := ∀ x ∈ l, x.size ≤ maxLen
def bulkS (l : List ByteArray) : Nat := l.length + sumBulk ByteArray.size l
def fewS (l : List ByteArray) : Prop := l.length ≤ 1048576
theorem fewS_of {l : List ByteArray} (h : bulkS l ≤ 1048576) : fewS l := by unfold bulkS at h; unfold fewS; omega
def cntS (l : List ByteArray) : Nat := 1 * l.length
theorem cntS_few {l : List ByteArray} (h : fewS l) : (cntS l : Int) ≤ 20000000 := by unfold cntS; unfold fewS at h; omega
def mkES (k : Int) : ByteArray := markTxt k
def mkS (k : Int) (l : List ByteArray) : List ByteArray := (List.range l.length).map fun (i : Nat) => mkES (k + 1 * (i : Int))
theorem RdS.below {w w' : World} {v : Sv} {l : List ByteArray} (h : RdS w v l) (hb : Below w.heap.size w w') : RdS w' v l := Row.below h hb
theorem RdS.len {w : World} {v : Sv} {l : List ByteArray} (h : RdS w v l) : Hid (l.length = v.n) := Row.len h
theorem mkS_len (k : Int) (l : List ByteArray) : (mkS k l).length = l.length := by simp [mkS]
theorem cntS_le (l : List ByteArray) : cntS l ≤ 1 * bulkS l := by unfold cntS bulkS; omega
def OwS (w : World) (v : Sv) (l : List ByteArray) : Prop := Own w 0 9 1 v.A v.n v.c (l.map strCells)
theorem OwS.own {w : World} {v : Sv} {l : List ByteArray} (h : OwS w v l) : Own w 0 9 1 v.A v.n v.c (l.map strCells) := h
theorem OwS.rd {w : World} {v : Sv} {l : List ByteArray} (h : OwS w v l) : RdS w v l := Own.row h
theorem OwS.lt {w : World} {v : Sv} {l : List ByteArray} (h : OwS w v l) : ∀ k ∈ fpS v, k < w.heap.size := fun k hk => (Own.lt h k (mem_obl.1 hk)).2
theorem OwS.keep {w w' : World} {v : Sv} {l : List ByteArray} (h : OwS w v l) (hw : ∀ k ∈ fpS v, w'.heap[k]? = w.heap[k]?) : OwS w' v l := Own.keep h fun g hg => hw g (mem_obl.2 hg)
theorem OwS.below {w w' : World} {v : Sv} {l : List ByteArray} (h : OwS w v l) (hb : Below w.heap.size w w') : OwS w' v l := h.keep fun k hk => hb.block k (h.lt k hk)
theorem OwS.upd {w w' : World} {v : Sv} {l : List ByteArray} {fs : List Nat} (h : OwS w v l) (hu : Upd fs w w') (hd : ∀ k ∈ fpS v, k ∉ fs) : OwS w' v l := h.keep fun k hk => hu.block k (h.lt k hk) (hd k hk)

/-! ### IntS -/
def RdI (w : World) (v : Sv) (l : List Int) : Prop := Row w v.A v.n 1 (l.map intCells)
def fpI (v : Sv) : List Nat := obl v.A
def lenI (v : Sv) : Prop := v.n ≤ maxLen
def okI (l : List Int) : Prop := ∀ x ∈ l, True
def bulkI (l : List Int) : Nat := l.length + sumBulk (fun _ => 0) l
def fewI (l : List Int) : Prop := l.length ≤ 1048576
theorem fewI_of {l : List Int} (h : bulkI l ≤ 1048576) : fewI l := by unfold bulkI at h; unfold fewI; omega
def cntI (l : List Int) : Nat := 1 * l.length
theorem cntI_few {l : List Int} (h : fewI l) : (cntI l : Int) ≤ 20000000 := by unfold cntI; unfold fewI at h; omega
def mkEI (k : Int) : Int := k
def mkI (k : Int) (l : List Int) : List Int := (List.range l.length).map fun (i : Nat) => mkEI (k + 1 * (i : Int))
theorem RdI.below {w w' : World} {v : Sv} {l : List Int} (h : RdI w v l) (hb : Below w.heap.size w w') : RdI w' v l := Row.below h hb
theorem RdI.len {w : World} {v : Sv} {l : List Int} (h : RdI w v l) : Hid (l.length = v.n) := Row.len h
theorem mkI_len (k : Int) (l : List Int) : (mkI k l).length = l.length := by simp [mkI]
theorem cntI_le (l : List Int) : cntI l ≤ 1 * bulkI l := by unfold cntI bulkI; omega
def OwI (w : World) (v : Sv) (l : List Int) : Prop := Own w 0 3 1 v.A v.n v.c (l.map intCells)
theorem OwI.own {w : World} {v : Sv} {l : List Int} (h : OwI w v l) : Own w 0 3 1 v.A v.n v.c (l.map intCells) := h
theorem OwI.rd {w : World} {v : Sv} {l : List Int} (h : OwI w v l) : RdI w v l := Own.row h
theorem OwI.lt {w : World} {v : Sv} {l : List Int} (h : OwI w v l) : ∀ k ∈ fpI v, k < w.heap.size := fun k hk => (Own.lt h k (mem_obl.1 hk)).2
theorem OwI.keep {w w' : World} {v : Sv} {l : List Int} (h : OwI w v l) (hw : ∀ k ∈ fpI v, w'.heap[k]? = w.heap[k]?) : OwI w' v l := Own.keep h fun g hg => hw g (mem_obl.2 hg)
theorem OwI.below {w w' : World} {v : Sv} {l : List Int} (h : OwI w v l) (hb : Below w.heap.size w w') : OwI w' v l := h.keep fun k hk => hb.block k (h.lt k hk)
theorem OwI.upd {w w' : World} {v : Sv} {l : List Int} {fs : List Nat} (h : OwI w v l) (hu : Upd fs w w') (hd : ∀ k ∈ fpI v, k ∉ fs) : OwI w' v l := h.keep fun k hk => hu.block k (h.lt k hk) (hd k hk)

/-! ### EntryS -/
def RdN (w : World) (v : Sv) (l : List Entry) : Prop := Row w v.A v.n 10 (l.map Entry.cells)
def fpN (v : Sv) : List Nat := obl v.A
def lenN (v : Sv) : Prop := v.n ≤ maxLen
def okN (l : List Entry) : Prop := ∀ x ∈ l, Entry.ok x
def bulkN (l : List Entry) : Nat := l.length + sumBulk Entry.bulk l
def fewN (l : List Entry) : Prop := l.length ≤ 1048576
theorem fewN_of {l : List Entry} (h : bulkN l ≤ 1048576) : fewN l := by unfold bulkN at h; unfold fewN; omega
def cntN (l : List Entry) : Nat := 10 * l.length
theorem cntN_few {l : List Entry} (h : fewN l) : (cntN l : Int) ≤ 20000000 := by unfold cntN; unfold fewN at h; omega
def mkEN (k : Int) : Entry := ⟨k % 3 == 0, k + 1, ⟨k + 2, k + 3, markTxt (k + 4), markTxt (k + 5), ⟨k + 6, k + 7, k + 8⟩, k + 9⟩⟩
def mkN (k : Int) (l : List Entry) : List Entry := (List.range l.length).map fun (i : Nat) => mkEN (k + 10 * (i : Int))
theorem RdN.below {w w' : World} {v : Sv} {l : List Entry} (h : RdN w v l) (hb : Below w.heap.size w w') : RdN w' v l := Row.below h hb
theorem RdN.len {w : World} {v : Sv} {l : List Entry} (h : RdN w v l) : Hid (l.length = v.n) := Row.len h
theorem mkN_len (k : Int) (l : List Entry) : (mkN k l).length = l.length := by simp [mkN]
theorem cntN_le (l : List Entry) : cntN l ≤ 10 * bulkN l := by unfold cntN bulkN; omega
def OwN (w : World) (v : Sv) (l : List Entry) : Prop := Own w 0 46 10 v.A v.n v.c (l.map Entry.cells)
theorem OwN.own {w : World} {v : Sv} {l : List Entry} (h : OwN w v l) : Own w 0 46 10 v.A v.n v.c (l.map Entry.cells) := h
theorem OwN.rd {w : World} {v : Sv} {l : List Entry} (h : OwN w v l) : RdN w v l := Own.row h
theorem OwN.lt {w : World} {v : Sv} {l : List Entry} (h : OwN w v l) : ∀ k ∈ fpN v, k < w.heap.size := fun k hk => (Own.lt h k (mem_obl.1 hk)).2
theorem OwN.keep {w w' : World} {v : Sv} {l : List Entry} (h : OwN w v l) (hw : ∀ k ∈ fpN v, w'.heap[k]? = w.heap[k]?) : OwN w' v l := Own.keep h fun g hg => hw g (mem_obl.2 hg)
theorem OwN.below {w w' : World} {v : Sv} {l : List Entry} (h : OwN w v l) (hb : Below w.heap.size w w') : OwN w' v l := h.keep fun k hk => hb.block k (h.lt k hk)
theorem OwN.upd {w w' : World} {v : Sv} {l : List Entry} {fs : List Nat} (h : OwN w v l) (hu : Upd fs w w') (hd : ∀ k ∈ fpN v, k ∉ fs) : OwN w' v l := h.keep fun k hk => hu.block k (h.lt k hk) (hd k hk)

/-! ### PlaceEntryS -/
def RdL (w : World) (v : Sv) (l : List PlaceEntry) : Prop := Row w v.A v.n 3 (l.map PlaceEntry.cells)
def fpL (v : Sv) : List Nat := obl v.A
def lenL (v : Sv) : Prop := v.n ≤ maxLen
def okL (l : List PlaceEntry) : Prop := ∀ x ∈ l, True
def bulkL (l : List PlaceEntry) : Nat := l.length + sumBulk (fun _ => 0) l
def fewL (l : List PlaceEntry) : Prop := l.length ≤ 1048576
theorem fewL_of {l : List PlaceEntry} (h : bulkL l ≤ 1048576) : fewL l := by unfold bulkL at h; unfold fewL; omega
def cntL (l : List PlaceEntry) : Nat := 3 * l.length
theorem cntL_few {l : List PlaceEntry} (h : fewL l) : (cntL l : Int) ≤ 20000000 := by unfold cntL; unfold fewL at h; omega
def mkEL (k : Int) : PlaceEntry := ⟨k, k + 1, k + 2⟩
def mkL (k : Int) (l : List PlaceEntry) : List PlaceEntry := (List.range l.length).map fun (i : Nat) => mkEL (k + 3 * (i : Int))
theorem RdL.below {w w' : World} {v : Sv} {l : List PlaceEntry} (h : RdL w v l) (hb : Below w.heap.size w w') : RdL w' v l := Row.below h hb
theorem RdL.len {w : World} {v : Sv} {l : List PlaceEntry} (h : RdL w v l) : Hid (l.length = v.n) := Row.len h
theorem mkL_len (k : Int) (l : List PlaceEntry) : (mkL k l).length = l.length := by simp [mkL]
theorem cntL_le (l : List PlaceEntry) : cntL l ≤ 3 * bulkL l := by unfold cntL bulkL; omega

end Go.Proofs.YtebcdjpddoaajaaGreatDoor

/- SplitAny at one sign: what the two answer. -/
namespace Go.Proofs.YtebcdjpddoaajaaGreatDoor
open Go.RowKit
set_option linter.unusedVariables false
set_option linter.unusedSimpArgs false
set_option maxHeartbeats 1000000
set_option maxRecDepth 100000
def isB (c : UInt8) (b : UInt8) : Bool := b == c
/-- the words so far L, the one under way from 'start' on, k bytes read -/
def SpInv (s : ByteArray) (c : UInt8) (start k : Nat) (L : List ByteArray) : Prop :=
  splitL (isB c) [] s.data.toList = L.map (fun x => x.data.toList) ++ splitL (isB c) ((s.data.toList.drop start).take (k - start)) (s.data.toList.drop k)
theorem ext_list (s : ByteArray) (a b : Nat) : (s.extract a b).data.toList = (s.data.toList.drop a).take (b - a) := by
  rw [← ByteArray.toList_eq]; exact Lib.extract_toList s a b
theorem SpInv.start (s : ByteArray) (c : UInt8) : SpInv s c 0 0 [] := by simp [SpInv]
theorem take_more {l : List UInt8} {a k : Nat} {b : UInt8} (hak : a ≤ k) (hb : l[k]? = some b) : (l.drop a).take (k - a) ++ [b] = (l.drop a).take (k + 1 - a) := by
  have e : k + 1 - a = (k - a) + 1 := by omega
  have hd : (l.drop a)[k - a]? = some b := by rw [List.getElem?_drop]; rw [show a + (k - a) = k by omega]; exact hb
  obtain ⟨hi, he⟩ := List.getElem?_eq_some_iff.1 hd
  rw [e, List.take_succ_eq_append_getElem hi, he]
theorem SpInv.no {s : ByteArray} {c : UInt8} {a k : Nat} {L : List ByteArray} (h : SpInv s c a k L) (hak : a ≤ k) (hk : k < s.size) (hc : (s[k] == c) = false) : SpInv s c a (k + 1) L := by
  unfold SpInv at *
  rw [h, sdrop s hk, splitL]
  rw [if_neg (by unfold isB; rw [hc]; decide)]
  have hb : s.data.toList[k]? = some s[k] := by
    have hk' : k < s.data.toList.length := by simpa using hk
    rw [List.getElem?_eq_getElem hk']; rfl
  rw [take_more hak hb]
theorem SpInv.yes {s : ByteArray} {c : UInt8} {a k : Nat} {L : List ByteArray} (h : SpInv s c a k L) (hk : k < s.size) (hc : (s[k] == c) = true) : SpInv s c (k + 1) (k + 1) (L ++ [s.extract a k]) := by
  unfold SpInv at *
  rw [h, sdrop s hk, splitL]
  rw [if_pos (by unfold isB; exact hc)]
  simp [ext_list]
theorem SpInv.done {s : ByteArray} {c : UInt8} {a k : Nat} {L : List ByteArray} (h : SpInv s c a k L) (hk : k = s.size) : splitL (isB c) [] s.data.toList = (L ++ [s.extract a s.size]).map (fun x => x.data.toList) := by
  subst hk
  unfold SpInv at h
  have hl : s.data.toList.length = s.size := by simp
  have e : s.data.toList.drop s.size = [] := List.drop_of_length_le (by omega)
  rw [h, e, splitL]
  simp [ext_list]
theorem byte_eq {a b : UInt8} : ((a.toNat : Int) == (b.toNat : Int)) = (a == b) := by
  rw [Bool.eq_iff_iff]
  simp only [beq_iff_eq]
  constructor
  · intro h; exact UInt8.toNat_inj.1 (by omega)
  · rintro rfl; rfl
theorem hasByte_c (c : UInt8) (b : UInt8) (w : World) : Calls Tryz.prog 115 #[.string ⟨#[c]⟩, .int .u8 (b.toNat : Int)] w fun e w' => e = rBool (b == c) ∧ w = w' := by
  have hx : ((⟨#[c]⟩ : ByteArray)[0]'(by show 0 < 1; omega)) = c := rfl
  go_enter Tryz.func115, Tryz.ntmps115
  go_wp2_with fail
  go_loop [5] (fun i => ∃ k : Nat, i = .int .i64 (k : Int) ∧ (k = 0 ∨ (k = 1 ∧ ¬ b = c))) (fun i => 2 - (intOf i).toNat)
  case atStart => exact ⟨0, rfl, .inl rfl⟩
  case round =>
    obtain ⟨k, rfl, hk⟩ := hrel
    rcases hk with rfl | ⟨rfl, hne⟩
    · by_cases hbc : b = c
      · subst hbc
        go_wp2
        go_ret
        exact ⟨by simp, rfl⟩
      · have hne : ¬ (c.toNat : Int) = (b.toNat : Int) := fun e => hbc (UInt8.toNat_inj.1 (by omega))
        have hne2 : ¬ c.toNat = b.toNat := by omega
        have hq : ((c.toNat : Int) == (b.toNat : Int)) = false := by simp; omega
        go_wp2
        exact ⟨⟨1, by simp, .inr ⟨rfl, hbc⟩⟩, by simp [intOf]⟩
    · go_wp2
      go_ret
      exact ⟨by simp [hne], rfl⟩
/-- what SplitAny hands back -/
def SplitPost (w : World) (s : ByteArray) (c : UInt8) (e : Ending) (w' : World) : Prop :=
  ∃ (v : Sv) (L : List ByteArray), e = .returned (.slice v.A v.n v.c) ∧ Own w' w.heap.size 9 1 v.A v.n v.c (L.map strCells) ∧ L.map (fun x => x.data.toList) = splitL (isB c) [] s.data.toList ∧ Below w.heap.size w w'
theorem impl_SplitAny_k (s : ByteArray) (c : UInt8) (w : World) (hs : s.size ≤ 4194304) :
    Calls Tryz.prog 88 #[.string s, .string ⟨#[c]⟩] w fun e w' => SplitPost w s c e w' := by
  obtain ⟨i0, hii, hq0, hq1, hq2⟩ := info_parts info_String
  go_enter Tryz.func88, Tryz.ntmps88
  go_wp2_with fail
  go_loopw [5, 6, 7] (fun l st i wr => ∃ (k a : Nat) (A : Option Addr) (cc : Nat) (L : List ByteArray), l = .slice A L.length cc ∧ st = .int .i64 (a : Int) ∧ i = .int .i64 (k : Int) ∧ a ≤ k ∧ k ≤ s.size ∧ L.length ≤ k ∧ SpInv s c a k L ∧ Own wr w.heap.size 9 1 A L.length cc (L.map strCells) ∧ Below w.heap.size w wr) (fun _ _ i _ => s.size - (intOf i).toNat)
  case atStart => exact ⟨0, 0, _, 0, [], rfl, rfl, rfl, Nat.le_refl _, Nat.zero_le _, Nat.le_refl _, SpInv.start s c, Own.made0 w _ 1 (Nat.le_refl _), bAlloc (Below.refl _ _) _⟩
  case round =>
    obtain ⟨k, a, A, cc, L, rfl, rfl, rfl, hak, hk, hL, hi, ho, hb⟩ := hrel
    have HI := Lib.hid hi
    have HO := Lib.hid ho
    have HB := Lib.hid hb
    clear hi ho hb
    by_cases hlt : k < s.size
    · go_wp2_with fail
      refine Calls.mono (hasByte_c c s[k] _) ?_
      rintro e w1 ⟨rfl, rfl⟩
      cases hc : s[k] == c with
      | false =>
        have HN := Lib.hid (HI.out.no hak hlt hc)
        clear hc
        go_wp2_with fail
        exact ⟨⟨k + 1, a, A, cc, L, rfl, rfl, by simp, by omega, by omega, by omega, HN.out, HO.out, HB.out⟩, by simp only [intOf]; omega⟩
      | true =>
        have HN := Lib.hid (HI.out.yes hlt hc)
        have hai : (a : Int) ≤ (k : Int) := by omega
        have hki : (k : Int) ≤ (s.size : Int) := by omega
        clear hc
        go_wp2_with (at_builtin; refine wpList_append rfl (.tmp 20) (.tmp 25) 73 rfl w.heap.size 9 1 16 i0 _ Tryz.underlying73 hii hq0 hq1 hq2 rfl (by omega) A L.length cc (L.map strCells) rfl (HO.out.alloc_ _) _ 1 1 [[.string (s.extract a k)]] rfl (Row.new1' _ _ [.string (s.extract a k)] 1 _ (by simp)) (by simp) (by simp [Value.oneCell']) (by simp only [maxLen]; omega) (by omega) (by have := HB.out.size; simp; omega) ?_; intro A5 c5 w5 ho5 hg5 hat5)
        exact ⟨⟨k + 1, k + 1, A5, c5, L ++ [s.extract a k], by simp, by simp, by simp, by omega, by omega, by simp; omega, HN.out, by rw [List.length_append, List.map_append]; exact ho5, bGrown (bAlloc HB.out _) hg5 (fun q hq => (HO.out.lt q hq).1)⟩, by simp only [intOf]; omega⟩
    · obtain rfl : k = s.size := by omega
      have hkn : ¬ (s.size : Int) < (s.size : Int) := by omega
      have hai : (a : Int) ≤ (s.size : Int) := by omega
      have HD := Lib.hid (HI.out.done rfl)
      go_wp2_with (at_builtin; refine wpList_append rfl (.tmp 29) (.tmp 33) 73 rfl w.heap.size 9 1 16 i0 _ Tryz.underlying73 hii hq0 hq1 hq2 rfl (by omega) A L.length cc (L.map strCells) rfl (HO.out.alloc_ _) _ 1 1 [[.string (s.extract a s.size)]] rfl (Row.new1' _ _ [.string (s.extract a s.size)] 1 _ (by simp)) (by simp) (by simp [Value.oneCell']) (by simp only [maxLen]; omega) (by omega) (by have := HB.out.size; simp; omega) ?_; intro A5 c5 w5 ho5 hg5 hat5)
      go_ret
      exact ⟨⟨A5, L.length + 1, c5⟩, L ++ [s.extract a s.size], rfl, by rw [List.map_append]; exact ho5, HD.out.symm, bGrown (bAlloc HB.out _) hg5 (fun q hq => (HO.out.lt q hq).1)⟩
theorem spec_SplitAny_k (s : ByteArray) (c : UInt8) (w : World) (hs : s.size ≤ 4194304) :
    Calls Tryz.prog 97 #[.string s, .string ⟨#[c]⟩] w fun e w' => SplitPost w s c e w' := by
  obtain ⟨i0, hii, hq0, hq1, hq2⟩ := info_parts info_String
  have hx : ((⟨#[c]⟩ : ByteArray)[0]'(by show 0 < 1; omega)) = c := rfl
  go_enter Tryz.func97, Tryz.ntmps97
  go_wp2_with fail
  go_loopw [5, 6, 7] (fun l st i wr => ∃ (k a : Nat) (A : Option Addr) (cc : Nat) (L : List ByteArray), l = .slice A L.length cc ∧ st = .int .i64 (a : Int) ∧ i = .int .i64 (k : Int) ∧ a ≤ k ∧ k ≤ s.size ∧ L.length ≤ k ∧ SpInv s c a k L ∧ Own wr w.heap.size 9 1 A L.length cc (L.map strCells) ∧ Below w.heap.size w wr) (fun _ _ i _ => s.size - (intOf i).toNat)
  case atStart => exact ⟨0, 0, _, 0, [], rfl, rfl, rfl, Nat.le_refl _, Nat.zero_le _, Nat.le_refl _, SpInv.start s c, Own.made0 w _ 1 (Nat.le_refl _), bAlloc (Below.refl _ _) _⟩
  case round =>
    obtain ⟨k, a, A, cc, L, rfl, rfl, rfl, hak, hk, hL, hi, ho, hb⟩ := hrel
    have HI := Lib.hid hi
    have HO := Lib.hid ho
    have HB := Lib.hid hb
    clear hi ho hb
    by_cases hlt : k < s.size
    · go_wp2_with fail
      obtain ⟨wo, hwo⟩ : ∃ wo : World, wo = wr := ⟨_, rfl⟩
      clear hwo
      go_loopw [5, 6, 8] (fun l st j wr2 => ∃ (jj : Nat), l = .slice A L.length cc ∧ st = .int .i64 (a : Int) ∧ j = .int .i64 (jj : Int) ∧ (jj = 0 ∨ (jj = 1 ∧ SpInv s c a (k + 1) L)) ∧ Own wr2 w.heap.size 9 1 A L.length cc (L.map strCells) ∧ Below w.heap.size w wr2) (fun _ _ j _ => 2 - (intOf j).toNat)
      case atStart => exact ⟨0, rfl, rfl, rfl, .inl rfl, HO.out, HB.out⟩
      case round =>
        obtain ⟨jj, rfl, rfl, rfl, hj, ho, hb⟩ := hrel
        have HO := Lib.hid ho
        have HB := Lib.hid hb
        clear ho hb
        rcases hj with rfl | ⟨rfl, hn⟩
        · cases hc : s[k] == c with
          | false =>
            have HN := Lib.hid (HI.out.no hak hlt hc)
            have hq : ((s[k].toNat : Int) == (c.toNat : Int)) = false := by rw [byte_eq]; exact hc
            have hne : ¬ (s[k].toNat : Int) = (c.toNat : Int) := by simpa using hq
            clear hc
            go_wp2_with fail
            go_quiet (fail)
            go_wp2_with fail
            exact ⟨⟨1, rfl, rfl, by simp, .inr ⟨rfl, HN.out⟩, HO.out.below (bDrewN (Below.refl _ _) _), bDrewN HB.out _⟩, by simp [intOf]⟩
          | true =>
            have HN := Lib.hid (HI.out.yes hlt hc)
            have hq : ((s[k].toNat : Int) == (c.toNat : Int)) = true := by rw [byte_eq]; exact hc
            have hne : (s[k].toNat : Int) = (c.toNat : Int) := by simpa using hq
            have HNE := Lib.hid hne
            have hai : (a : Int) ≤ (k : Int) := by omega
            have hki : (k : Int) ≤ (s.size : Int) := by omega
            clear hc hne
            go_wp2_with fail
            go_quiet (fail)
            have hsz := HB.out.size
            go_wp2_with (at_builtin; refine wpList_append rfl (.tmp 29) (.tmp 34) 73 rfl w.heap.size 9 1 16 i0 _ Tryz.underlying73 hii hq0 hq1 hq2 rfl (by omega) A L.length cc (L.map strCells) rfl (HO.out.below (bAlloc (bDrewN (Below.refl _ _) _) _)) _ 1 1 [[.string (s.extract a k)]] rfl (Row.new1' _ _ [.string (s.extract a k)] 1 _ (by simp)) (by simp) (by simp [Value.oneCell']) (by simp only [maxLen]; omega) (by omega) (by simp; omega) ?_; intro A5 c5 w5 ho5 hg5 hat5)
            exact ⟨⟨k + 1, k + 1, A5, c5, L ++ [s.extract a k], by simp, by simp, by simp, by omega, by omega, by simp; omega, HN.out, by rw [List.length_append, List.map_append]; exact ho5, bGrown (bAlloc (bDrewN HB.out _) _) hg5 (fun q hq => (HO.out.lt q hq).1)⟩, by simp only [intOf]; omega⟩
        · go_wp2_with fail
          exact ⟨⟨k + 1, a, A, cc, L, rfl, rfl, by simp, by omega, by omega, by omega, hn, HO.out, HB.out⟩, by simp only [intOf]; omega⟩
    · obtain rfl : k = s.size := by omega
      have hkn : ¬ (s.size : Int) < (s.size : Int) := by omega
      have hai : (a : Int) ≤ (s.size : Int) := by omega
      have HD := Lib.hid (HI.out.done rfl)
      go_wp2_with (at_builtin; refine wpList_append rfl (.tmp 38) (.tmp 42) 73 rfl w.heap.size 9 1 16 i0 _ Tryz.underlying73 hii hq0 hq1 hq2 rfl (by omega) A L.length cc (L.map strCells) rfl (HO.out.alloc_ _) _ 1 1 [[.string (s.extract a s.size)]] rfl (Row.new1' _ _ [.string (s.extract a s.size)] 1 _ (by simp)) (by simp) (by simp [Value.oneCell']) (by simp only [maxLen]; omega) (by omega) (by have := HB.out.size; simp; omega) ?_; intro A5 c5 w5 ho5 hg5 hat5)
      go_ret
      exact ⟨⟨A5, L.length + 1, c5⟩, L ++ [s.extract a s.size], rfl, by rw [List.map_append]; exact ho5, HD.out.symm, bGrown (bAlloc HB.out _) hg5 (fun q hq => (HO.out.lt q hq).1)⟩
end Go.Proofs.YtebcdjpddoaajaaGreatDoor

/- IsDigits of the spec: what it answers. -/
namespace Go.Proofs.YtebcdjpddoaajaaGreatDoor
open Go.RowKit
set_option linter.unusedVariables false
set_option linter.unusedSimpArgs false
set_option maxHeartbeats 1000000
set_option maxRecDepth 100000
def dgB (b : UInt8) : Bool := decide (48 ≤ (b.toNat : Int) ∧ (b.toNat : Int) ≤ 57)
def isDg (s : ByteArray) : Bool := s.data.toList.all dgB && decide (0 < s.size)
def DgInv (s : ByteArray) (k : Nat) : Prop := s.data.toList.all dgB = (s.data.toList.drop k).all dgB
theorem DgInv.next {s : ByteArray} {k : Nat} (h : DgInv s k) (hk : k < s.size) (hb : dgB s[k] = true) : DgInv s (k + 1) := by
  unfold DgInv at *
  rw [h, sdrop s hk, List.all_cons, hb, Bool.true_and]
theorem DgInv.no {s : ByteArray} {k : Nat} (h : DgInv s k) (hk : k < s.size) (hb : dgB s[k] = false) : isDg s = false := by
  unfold DgInv at h
  rw [isDg, h, sdrop s hk, List.all_cons, hb, Bool.false_and, Bool.false_and]
theorem DgInv.yes {s : ByteArray} {k : Nat} (h : DgInv s k) (hk : ¬ k < s.size) : isDg s = decide (0 < s.size) := by
  unfold DgInv at h
  rw [isDg, h, List.drop_eq_nil_of_le (by simp; omega), List.all_nil, Bool.true_and]
theorem spec_IsDigits_c (s : ByteArray) (w : World) (hs : s.size ≤ 4194304) : Calls Tryz.prog 123 #[.string s] w fun e w' => e = rBool (isDg s) ∧ w = w' := by
  go_enter Tryz.func123, Tryz.ntmps123
  go_wp2
  go_loop [3] (fun i => ∃ (k : Nat), k ≤ s.size ∧ i = .int .i64 k ∧ DgInv s k) (fun i => s.size - (intOf i).toNat)
  case atStart => exact ⟨0, by omega, rfl, rfl⟩
  case round =>
    obtain ⟨k, hk, rfl, hi⟩ := hrel
    by_cases hlt : k < s.size
    · by_cases hA : dgB s[k] = true
      · have hnx := Lib.hid (hi.next hlt hA)
        unfold dgB at hA
        obtain ⟨h4, h5⟩ := of_decide_eq_true hA
        clear hA
        go_wp2
        all_goals
          go_round
          case rel => exact ⟨k + 1, by omega, by go_num, hnx.out⟩
          case measure => simp [intOf]; omega
      · have hno := Lib.hid (hi.no hlt (by simpa using hA))
        by_cases h4 : 48 ≤ (s[k].toNat : Int)
        · have h5 : 57 < (s[k].toNat : Int) := by
            unfold dgB at hA
            by_cases h6 : 57 < (s[k].toNat : Int)
            · exact h6
            · exact absurd (decide_eq_true ⟨h4, by omega⟩) hA
          clear hA
          go_wp2
          go_ret
          exact ⟨by rw [hno.out]; rfl, rfl⟩
        · have h5 : (s[k].toNat : Int) < 48 := by omega
          clear hA
          go_wp2
          go_ret
          exact ⟨by rw [hno.out]; rfl, rfl⟩
    · have hy := Lib.hid (hi.yes hlt)
      by_cases h0 : 0 < s.size
      · go_wp2
        go_ret
        exact ⟨by rw [hy.out]; simp [h0], rfl⟩
      · go_wp2
        go_ret
        exact ⟨by rw [hy.out]; simp [h0], rfl⟩
end Go.Proofs.YtebcdjpddoaajaaGreatDoor

/- A numeral read back: plain. -/
namespace Go.Proofs.YtebcdjpddoaajaaGreatDoor
open Go.RowKit
set_option linter.unusedVariables false
set_option linter.unusedSimpArgs false
set_option maxHeartbeats 1000000
set_option maxRecDepth 100000
open Classical in
/-- the number whose text this is, if there is one -/
noncomputable def psI (s : ByteArray) : Option Int :=
  if h : ∃ n : Int, (-9223372036854775808 ≤ n ∧ n ≤ 9223372036854775807) ∧ itoaB n = s then some (Classical.choose h) else none
theorem itoaB_inj {n m : Int} (h0 : -9223372036854775808 ≤ n) (h1 : n ≤ 9223372036854775807) (g0 : -9223372036854775808 ≤ m) (g1 : m ≤ 9223372036854775807) (h : itoaB n = itoaB m) : n = m := by
  refine itoa_inj h0 h1 g0 g1 ?_
  have := congrArg (fun x => x.data.toList) h
  simpa [itoaB] using this
theorem psI_some {n : Int} {s : ByteArray} (h0 : -9223372036854775808 ≤ n) (h1 : n ≤ 9223372036854775807) (h : itoaB n = s) : psI s = some n := by
  have hx : ∃ n : Int, (-9223372036854775808 ≤ n ∧ n ≤ 9223372036854775807) ∧ itoaB n = s := ⟨n, ⟨h0, h1⟩, h⟩
  unfold psI
  rw [dif_pos hx]
  have hc := Classical.choose_spec hx
  rw [itoaB_inj hc.1.1 hc.1.2 h0 h1 (hc.2.trans h.symm)]
theorem psI_none {s : ByteArray} (h : ∀ n : Int, -9223372036854775808 ≤ n → n ≤ 9223372036854775807 → itoaB n ≠ s) : psI s = none := by
  unfold psI
  rw [dif_neg]
  rintro ⟨n, ⟨h0, h1⟩, e⟩
  exact h n h0 h1 e
theorem psI_text {n : Int} {s : ByteArray} (h : psI s = some n) : -9223372036854775808 ≤ n ∧ n ≤ 9223372036854775807 ∧ itoaB n = s := by
  unfold psI at h
  split at h
  case isTrue hx =>
    have hc := Classical.choose_spec hx
    injection h with h
    rw [h] at hc
    exact ⟨hc.1.1, hc.1.2, hc.2⟩
  case isFalse => cases h
/-- the value of a row of digits -/
def dval : Nat → List UInt8 → Nat
  | a, [] => a
  | a, b :: r => dval (a * 10 + (b.toNat - 48)) r
theorem dval_snoc : ∀ (l : List UInt8) (a : Nat) (c : UInt8), dval a (l ++ [c]) = dval a l * 10 + (c.toNat - 48)
  | [], a, c => rfl
  | x :: l, a, c => by
    show dval (a * 10 + (x.toNat - 48)) (l ++ [c]) = dval (a * 10 + (x.toNat - 48)) l * 10 + (c.toNat - 48)
    exact dval_snoc l _ c
theorem dval_le : ∀ (l : List UInt8) (a : Nat), a ≤ dval a l
  | [], a => Nat.le_refl _
  | x :: l, a => by
    show a ≤ dval (a * 10 + (x.toNat - 48)) l
    have := dval_le l (a * 10 + (x.toNat - 48))
    omega
theorem dval_app : ∀ (l r : List UInt8) (a : Nat), dval a (l ++ r) = dval (dval a l) r
  | [], r, a => rfl
  | x :: l, r, a => by
    show dval (a * 10 + (x.toNat - 48)) (l ++ r) = dval (dval (a * 10 + (x.toNat - 48)) l) r
    exact dval_app l r _
theorem dval_dec (u : Nat) : dval 0 (Lib.decDigits u) = u := by
  induction u using Nat.strongRecOn with
  | _ u ih =>
    by_cases h : u < 10
    · rw [Lib.decDigits_one h]
      show 0 * 10 + ((UInt8.ofNat (48 + u)).toNat - 48) = u
      rw [dig_nat h]
      omega
    · have e : Lib.decDigits u = Lib.decDigits (u / 10) ++ [UInt8.ofNat (48 + u % 10)] := by rw [Lib.decDigits, dif_neg h]
      rw [e, dval_snoc, ih (u / 10) (by omega), dig_nat (by omega)]
      omega
theorem dval_take (l : List UInt8) (k : Nat) : dval 0 (l.take k) ≤ dval 0 l := by
  have := dval_app (l.take k) (l.drop k) 0
  rw [List.take_append_drop] at this
  rw [this]
  exact dval_le _ _
theorem dval_next {s : ByteArray} {k : Nat} (hk : k < s.size) : dval 0 (s.data.toList.take (k + 1)) = dval 0 (s.data.toList.take k) * 10 + (s[k].toNat - 48) := by
  have hk' : k < s.data.toList.length := by simpa using hk
  rw [List.take_succ_eq_append_getElem hk', dval_snoc]
  rfl
theorem dec_isDg (t : ByteArray) (u : Nat) (h : t.data.toList = Lib.decDigits u) : isDg t = true := by
  unfold isDg
  rw [Bool.and_eq_true, List.all_eq_true]
  constructor
  · intro b hb
    rw [h] at hb
    have := dec_digits u b hb
    unfold dgB
    exact decide_eq_true (by omega)
  · have hn := dec_ne u
    rw [← h] at hn
    have : t.data.toList.length = t.size := by simp
    have : 0 < t.data.toList.length := List.length_pos_iff.2 hn
    exact decide_eq_true (by omega)
end Go.Proofs.YtebcdjpddoaajaaGreatDoor
