/- Texts of this proof, one behind the other: Valid, Nums. -/
import Derived.Laws.BitsAllLaws
import Derived.Laws.BitsLemmas
import Derived.Test.YtdfemnffpaopfaaGreatDoorGrs0
namespace Go.Proofs.YtdfemnffpaopfaaGreatDoor
open Go.RowKit
set_option linter.unusedVariables false
set_option linter.unusedSimpArgs false
set_option maxHeartbeats 400000
set_option maxRecDepth 100000
def inR (n lo hi:Int):Bool:=decide (lo≤n∧n≤hi)
theorem inR_iff {n lo hi:Int}:inR n lo hi=true ↔ lo≤n∧n≤hi:=by simp [inR]
theorem l01In_c (n lo hi:Int) (w:World):Calls Tryz.prog 105 #[.int .i64 n,.int .i64 lo,.int .i64 hi] w fun e w'=>e=rBool (inR n lo hi)∧w=w':=by
  go_enter Tryz.func105,Tryz.ntmps105
  go_wp2
  all_goals (go_ret;refine ⟨ret_bool ?_,rfl⟩;unfold inR;rw [Bool.eq_iff_iff];simp;try omega)
def vldPose (t x y:Int):Bool:=inR t 0 3 && (inR x (-1000000) 1000000 && inR y (-1000000) 1000000)
theorem spec_IsValidPose_c (t x y:Int) (w:World):Calls Tryz.prog 172 #[vPose t x y] w fun e w'=>e=rBool (vldPose t x y)∧Below w.heap.size w w':=by
  go_enter Tryz.func172,Tryz.ntmps172
  go_wp2
  all_goals (go_ret;refine ⟨ret_bool ?_,bAlloc (Below.refl _ _) _⟩;unfold vldPose inR;rw [Bool.eq_iff_iff];simp;try omega)
theorem impl_IsValidPose_c (t x y:Int) (w:World):Calls Tryz.prog 143 #[vPose t x y] w fun e w'=>e=rBool (vldPose t x y)∧Below w.heap.size w w':=by
  go_enter Tryz.func143,Tryz.ntmps143
  go_wp2
  all_goals (go_ret;refine ⟨ret_bool ?_,bAlloc (Below.refl _ _) _⟩;unfold vldPose inR;rw [Bool.eq_iff_iff];simp;try omega)

def vldF (bi bw:Bool) (kind turn:Int) (bp pf pt lt fe ft:Bool):Bool :=
  bi && (bp && (bw &&
    (if kind=1 then fe && pt else if kind=2∨kind=4 then pf && (pt && !ft) else if kind=3 then pf && (lt && (turn == 0)) else false)))
def vldFactor (f:Factor):Bool:=vldF (inR f.id 0 99999) (inR f.weight 1 9999) f.kind f.pose.turn (vldPose f.pose.turn f.pose.x f.pose.y) (isPoseNm f.frm) (isPoseNm f.to) (isLandNm f.to) f.frm.toList.isEmpty (f.frm.toList == f.to.toList)
theorem vldFactor_eq (id kind:Int) (fr to:ByteArray) (t x y wt:Int):Hid (vldFactor ⟨id,kind,fr,to,⟨t,x,y⟩,wt⟩ =
    vldF (inR id 0 99999) (inR wt 1 9999) kind t (vldPose t x y) (isPoseNm fr) (isPoseNm to) (isLandNm to) fr.toList.isEmpty (fr.toList == to.toList)):=rfl
theorem spec_IsValidFactor_b (id kind:Int) (fr to:ByteArray) (t x y wt:Int) (w:World) (hf:fr.size≤4194304) (ht:to.size≤4194304) :
    Calls Tryz.prog 150 #[vFactor id kind fr to t x y wt] w fun e w'=>e=rBool (vldFactor ⟨id,kind,fr,to,⟨t,x,y⟩,wt⟩)∧Below w.heap.size w w':=by
  have E:=vldFactor_eq id kind fr to t x y wt
  generalize h1:vldPose t x y=bp at E
  generalize h2:isPoseNm fr=pf at E
  generalize h3:isPoseNm to=pt at E
  generalize h4:isLandNm to=lt at E
  generalize h5:fr.toList.isEmpty=fe at E
  generalize h6:(fr.toList == to.toList)=ft at E
  generalize h7:inR id 0 99999=bi at E
  generalize h8:inR wt 1 9999=bw at E
  have H1:=Lib.hid h1;have H2:=Lib.hid h2;have H3:=Lib.hid h3;have H4:=Lib.hid h4;have H7:=Lib.hid h7;have H8:=Lib.hid h8
  clear h1 h2 h3 h4 h7 h8
  go_enter Tryz.func150,Tryz.ntmps150
  go_wp2_with (first
    | (go_at_call 105;refine (l01In_c _ _ _ _).mono ?_;(first | rw [H7.out] | rw [H8.out]);rintro e w2 ⟨rfl,rfl⟩)
    | (go_at_call 172;refine (spec_IsValidPose_c _ _ _ _).mono ?_;rw [H1.out];rintro e w1 ⟨rfl,hb1⟩;obtain ⟨hc,hfz⟩:=bcell hb1)
    | (go_at_call 188;refine (spec_IsPoseName_c _ _ (by assumption)).mono ?_;(first | rw [H2.out] | rw [H3.out]);rintro e w2 ⟨rfl,rfl⟩)
    | (go_at_call 189;refine (spec_IsLandmarkName_c _ _ (by assumption)).mono ?_;rw [H4.out];rintro e w2 ⟨rfl,rfl⟩))
  all_goals (go_ret;refine ⟨ret_bool ?_,by repeat (first | exact Below.refl _ _ | refine bAlloc ?_ _ | refine bTrans ?_ hb1)⟩;rw [E.out];unfold vldF;simp_all)
theorem spec_IsValidFactor_c (id kind:Int) (fr to:ByteArray) (t x y wt:Int) (w:World) (hf:fr.size≤4194304) (ht:to.size≤4194304) :
    Calls Tryz.prog 150 #[vFactor id kind fr to t x y wt] w fun e w'=>e=rBool (vldFactor ⟨id,kind,fr,to,⟨t,x,y⟩,wt⟩)∧Below w.heap.size w w' :=
  spec_IsValidFactor_b id kind fr to t x y wt w (Nat.le_trans hf (by decide)) (Nat.le_trans ht (by decide))
theorem impl_IsValidFactor_b (id kind:Int) (fr to:ByteArray) (t x y wt:Int) (w:World) (hf:fr.size≤4194304) (ht:to.size≤4194304) :
    Calls Tryz.prog 93 #[vFactor id kind fr to t x y wt] w fun e w'=>e=rBool (vldFactor ⟨id,kind,fr,to,⟨t,x,y⟩,wt⟩)∧Below w.heap.size w w':=by
  have E:=vldFactor_eq id kind fr to t x y wt
  generalize h1:vldPose t x y=bp at E
  generalize h2:isPoseNm fr=pf at E
  generalize h3:isPoseNm to=pt at E
  generalize h4:isLandNm to=lt at E
  generalize h5:fr.toList.isEmpty=fe at E
  generalize h6:(fr.toList == to.toList)=ft at E
  have H1:=Lib.hid h1;have H2:=Lib.hid h2;have H3:=Lib.hid h3;have H4:=Lib.hid h4
  clear h1 h2 h3 h4
  go_enter Tryz.func93,Tryz.ntmps93
  go_wp2_with (first
    | (go_at_call 143;refine (impl_IsValidPose_c _ _ _ _).mono ?_;rw [H1.out];rintro e w1 ⟨rfl,hb1⟩;obtain ⟨hc,hfz⟩:=bcell hb1)
    | (go_at_call 144;refine (impl_IsPoseName_c _ _ (by assumption)).mono ?_;(first | rw [H2.out] | rw [H3.out]);rintro e w2 ⟨rfl,rfl⟩)
    | (go_at_call 145;refine (impl_IsLandmarkName_c _ _ (by assumption)).mono ?_;rw [H4.out];rintro e w2 ⟨rfl,rfl⟩))
  all_goals (go_ret;refine ⟨ret_bool ?_,by repeat (first | exact Below.refl _ _ | refine bAlloc ?_ _ | refine bTrans ?_ hb1)⟩;rw [E.out];unfold vldF inR;first | (simp_all;done) | (simp_all;omega))
theorem impl_IsValidFactor_c (id kind:Int) (fr to:ByteArray) (t x y wt:Int) (w:World) (hf:fr.size≤4194304) (ht:to.size≤4194304) :
    Calls Tryz.prog 93 #[vFactor id kind fr to t x y wt] w fun e w'=>e=rBool (vldFactor ⟨id,kind,fr,to,⟨t,x,y⟩,wt⟩)∧Below w.heap.size w w' :=
  impl_IsValidFactor_b id kind fr to t x y wt w (Nat.le_trans hf (by decide)) (Nat.le_trans ht (by decide))

def Factor.isZero (f:Factor):Bool:=(f.id == 0) && ((f.kind == 0) && (f.frm.toList.isEmpty && (f.to.toList.isEmpty && ((f.pose.turn == 0) && ((f.pose.x == 0) && ((f.pose.y == 0) && (f.weight == 0)))))))
def vldEntry (e:Entry):Bool:=if e.remove then inR e.id 0 99999 && e.factor.isZero else (e.id == 0) && vldFactor e.factor

theorem impl_IsValidEntry_b (rm:Bool) (eid id kind:Int) (fr to:ByteArray) (t x y wt:Int) (w:World) (hf:fr.size≤4194304) (ht:to.size≤4194304) :
    Calls Tryz.prog 44 #[vEntry rm eid id kind fr to t x y wt] w fun e w'=>e=rBool (vldEntry ⟨rm,eid,⟨id,kind,fr,to,⟨t,x,y⟩,wt⟩⟩)∧Below w.heap.size w w':=by
  have E:Hid (vldEntry ⟨rm,eid,⟨id,kind,fr,to,⟨t,x,y⟩,wt⟩⟩=if rm then inR eid 0 99999 && Factor.isZero ⟨id,kind,fr,to,⟨t,x,y⟩,wt⟩ else (eid == 0) && vldFactor ⟨id,kind,fr,to,⟨t,x,y⟩,wt⟩):=rfl
  generalize h1:vldFactor ⟨id,kind,fr,to,⟨t,x,y⟩,wt⟩=vf at E
  have H1:=Lib.hid h1
  clear h1
  cases rm
  all_goals
    go_enter Tryz.func44,Tryz.ntmps44
    go_wp2_with (first
      | (go_at_call 93;refine (impl_IsValidFactor_b _ _ _ _ _ _ _ _ _ hf ht).mono ?_;rw [H1.out];rintro e w1 ⟨rfl,hb1⟩))
    all_goals (go_ret;refine ⟨ret_bool ?_,by repeat (first | exact Below.refl _ _ | refine bAlloc ?_ _ | refine bTrans ?_ hb1)⟩;first | (rw [E.out];simp_all [Factor.isZero,inR];done) | (rw [E.out];simp_all [Factor.isZero,inR];omega) | (simp_all [vldEntry,Factor.isZero,inR];done) | (simp_all [vldEntry,Factor.isZero,inR];omega))
theorem impl_IsValidEntry_c (rm:Bool) (eid id kind:Int) (fr to:ByteArray) (t x y wt:Int) (w:World) (hf:fr.size≤4194304) (ht:to.size≤4194304) :
    Calls Tryz.prog 44 #[vEntry rm eid id kind fr to t x y wt] w fun e w'=>e=rBool (vldEntry ⟨rm,eid,⟨id,kind,fr,to,⟨t,x,y⟩,wt⟩⟩)∧Below w.heap.size w w' :=
  impl_IsValidEntry_b rm eid id kind fr to t x y wt w (Nat.le_trans hf (by decide)) (Nat.le_trans ht (by decide))
def chkL:List UInt8→Int→Int
  | [],h=>h
  | b :: r,h=>chkL r ((31 * h+(b.toNat:Int)) % 65521)
def chk (s:ByteArray):Int:=chkL s.data.toList 7
def ChkInv (s:ByteArray) (k:Nat) (h:Int):Prop:=chk s=chkL (s.data.toList.drop k) h
theorem chk_next {s:ByteArray} {k:Nat} {h:Int} (hi:ChkInv s k h) (hk:k < s.size):ChkInv s (k+1) ((31 * h+(s[k].toNat:Int)) % 65521):=by
  unfold ChkInv at *
  rw [hi,sdrop s hk,chkL]
theorem chk_end {s:ByteArray} {k:Nat} {h:Int} (hi:ChkInv s k h) (hk:¬ k < s.size):h=chk s:=by
  unfold ChkInv at *
  rw [hi,List.drop_eq_nil_of_le (by simp;omega),chkL]
theorem chkL_bound:∀ (l:List UInt8) (h:Int),0≤h→h≤65520→0≤chkL l h∧chkL l h≤65520
  | [],h,h0,h1=>⟨h0,h1⟩
  | b :: r,h,h0,h1=>by rw [chkL];exact chkL_bound r _ (by omega) (by omega)
theorem chk_bound (s:ByteArray):0≤chk s∧chk s≤65520:=chkL_bound _ _ (by omega) (by omega)
theorem spec_Checksum_c (s:ByteArray) (w:World) (hs:s.size≤1073741824):Calls Tryz.prog 162 #[.string s] w fun e w'=>e=rInt (chk s)∧w=w':=by
  go_enter Tryz.func162,Tryz.ntmps162
  go_wp2
  go_loop [3,4] (fun h i=>∃ (k:Nat) (q:Int),k≤s.size∧i=.int .i64 k∧h=.int .i64 q∧0≤q∧q≤65520∧ChkInv s k q) (fun _ i=>s.size - (intOf i).toNat)
  case atStart=>exact ⟨0,7,by omega,rfl,rfl,by omega,by omega,rfl⟩
  case round =>
    obtain ⟨k,q,hk,rfl,rfl,hq0,hq1,hi⟩:=hrel
    by_cases hlt:k < s.size
    · have hn:=chk_next hi hlt
      have hb:=s[k].toNat_lt
      go_wp2
      go_round
      case rel=>exact ⟨k+1,(31 * q+(s[k].toNat:Int)) % 65521,by omega,by go_num,rfl,by omega,by omega,hn⟩
      case measure=>simp [intOf];omega
    · have he:=Lib.hid (chk_end hi hlt)
      go_wp2
      go_ret
      exact ⟨by rw [← he.out];rfl,rfl⟩
theorem impl_Checksum_c (s:ByteArray) (w:World) (hs:s.size≤1073741824):Calls Tryz.prog 47 #[.string s] w fun e w'=>e=rInt (chk s)∧w=w':=by
  go_enter Tryz.func47,Tryz.ntmps47
  go_wp2
  go_loop [3,4] (fun h i=>∃ (k:Nat) (q:Int),k≤s.size∧i=.int .i64 k∧h=.int .i64 q∧0≤q∧q≤65520∧ChkInv s k q) (fun _ i=>s.size - (intOf i).toNat)
  case atStart=>exact ⟨0,7,by omega,rfl,rfl,by omega,by omega,rfl⟩
  case round =>
    obtain ⟨k,q,hk,rfl,rfl,hq0,hq1,hi⟩:=hrel
    by_cases hlt:k < s.size
    · have hn:=chk_next hi hlt
      have hb:=s[k].toNat_lt
      go_wp2
      go_round
      case rel=>exact ⟨k+1,(31 * q+(s[k].toNat:Int)) % 65521,by omega,by go_num,rfl,by omega,by omega,hn⟩
      case measure=>simp [intOf];omega
    · have he:=Lib.hid (chk_end hi hlt)
      go_wp2
      go_ret
      exact ⟨by rw [← he.out];rfl,rfl⟩


end Go.Proofs.YtdfemnffpaopfaaGreatDoor
