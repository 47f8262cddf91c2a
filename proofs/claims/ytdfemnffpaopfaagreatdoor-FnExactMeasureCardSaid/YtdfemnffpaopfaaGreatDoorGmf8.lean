/- Texts of this proof, one behind the other: FmtP, Fmt, Reg. -/
import Derived.Lib.ItoaLen
import Derived.Lib.QuietBelow
import Derived.Lib.Hide
import Derived.Deep.RegionHeld3
import Derived.Deep.RegionWith
import Derived.Deep.Quiet
import Derived.Test.YtdfemnffpaopfaaGreatDoorGmf0
import Derived.Test.YtdfemnffpaopfaaGreatDoorGmf1
import Derived.Test.YtdfemnffpaopfaaGreatDoorGmf3
namespace Go.Proofs.YtdfemnffpaopfaaGreatDoor
open Go.RowKit
set_option linter.unusedVariables false
set_option linter.unusedSimpArgs false
set_option maxHeartbeats 400000
set_option maxRecDepth 100000
theorem bsz (l:List UInt8):(ByteArray.mk l.toArray).size=l.length:=by show l.toArray.size = _;simp
theorem bext {a b:ByteArray} (h:a.data.toList=b.data.toList):a=b:=by
  obtain ⟨⟨a⟩⟩:=a;obtain ⟨⟨b⟩⟩:=b
  simp only at h;subst h;rfl
def itoaB (n:Int):ByteArray:=⟨(Lib.itoa n).toArray⟩
theorem itoaB_size {n:Int} (h0:-9223372036854775808≤n) (h1:n≤9223372036854775807):(itoaB n).size≤21:=by
  unfold itoaB;rw [bsz];exact Lib.itoa_length_le n h0 h1

def ItoInv (N n:Nat) (s:ByteArray):Prop:=Lib.decDigits N=Lib.decDigits n++s.data.toList
theorem ItoInv.start (N:Nat):ItoInv N N ⟨#[]⟩:=by simp [ItoInv]
theorem ItoInv.next {N n:Nat} {s t:ByteArray} (h:ItoInv N n s) (hn:9 < n) (ht:t=⟨#[UInt8.ofNat (48+n % 10)]⟩++s):ItoInv N (n / 10) t:=by
  subst ht
  unfold ItoInv at *
  rw [h,Lib.decDigits,dif_neg (by omega)]
  simp [ByteArray.data_append]
theorem ItoInv.done {N n:Nat} {s:ByteArray} (h:ItoInv N n s) (hn:n≤9):(ByteArray.mk #[UInt8.ofNat (48+n)])++s=itoaB (N:Int):=by
  apply bext
  have e:Lib.decDigits n=[UInt8.ofNat (48+n)]:=Lib.decDigits_one (by omega)
  unfold ItoInv at h
  rw [e] at h
  rw [ByteArray.data_append,Array.toList_append]
  show _=(Lib.itoa (N:Int)).toArray.toList
  rw [Lib.itoa_nonneg,h]
theorem ItoInv.size {N n:Nat} {s:ByteArray} (h:ItoInv N n s) (hN:N≤9223372036854775807):s.size≤21:=by
  have h1:=Lib.itoa_length_le (N:Int) (by omega) (by omega)
  rw [Lib.itoa_nonneg] at h1
  unfold ItoInv at h
  rw [h,List.length_append] at h1
  show s.data.size≤21
  rw [← Array.length_toList]
  omega
theorem itoa_neg1 {n:Int} (h0:n < 0) (h1:-10 < n):itoaB n=⟨#[45]⟩++⟨#[UInt8.ofNat (48 - n).toNat]⟩:=by
  apply bext
  obtain ⟨u,rfl⟩:∃ u:Nat,n = -(u:Int):=⟨n.natAbs,by omega⟩
  have e:(48 - -(u:Int)).toNat=48+u:=by omega
  rw [ByteArray.data_append,Array.toList_append,e]
  show (Lib.itoa (-(u:Int))).toArray.toList = _
  rw [Lib.itoa_neg u (by omega),Lib.decDigits_one (show u < 10 by omega)]
  rfl
theorem itoa_neg2 {n:Int} (h0:n≤-10):itoaB n=itoaB (n.tdiv 10)++⟨#[UInt8.ofNat (48 - n.tmod 10).toNat]⟩:=by
  apply bext
  obtain ⟨u,rfl⟩:∃ u:Nat,n = -(u:Int):=⟨n.natAbs,by omega⟩
  have e1:(-(u:Int)).tdiv 10 = -((u / 10:Nat):Int):=by rw [Int.neg_tdiv];rfl
  have e2:(-(u:Int)).tmod 10 = -((u % 10:Nat):Int):=by rw [Int.neg_tmod];rfl
  have e:(48 - (-(u:Int)).tmod 10).toNat=48+u % 10:=by rw [e2];omega
  have hd:Lib.decDigits u=Lib.decDigits (u / 10)++[UInt8.ofNat (48+u % 10)]:=by rw [Lib.decDigits,dif_neg (by omega)]
  rw [ByteArray.data_append,Array.toList_append,e1,e]
  show (Lib.itoa (-(u:Int))).toArray.toList=(Lib.itoa (-((u / 10:Nat):Int))).toArray.toList++_
  rw [Lib.itoa_neg u (by omega),Lib.itoa_neg (u / 10) (by omega),hd]
  rfl

def turnB (t:Int):UInt8:=([101,110,119,115]:List UInt8).getD t.toNat 0
def poseL (t x y:Int):List UInt8:=Lib.itoa x++44 :: (Lib.itoa y++[44,turnB t])
def fmtPose (t x y:Int):ByteArray:=if vldPose t x y then ⟨(poseL t x y).toArray⟩ else ⟨#[]⟩
def kindL (k:Int):List UInt8:=if k=1 then [112,114,105,111,114] else if k=2 then [111,100,111,109,101,116,114,121] else if k=3 then [108,97,110,100,109,97,114,107] else [108,111,111,112]
def frmL (k:Int) (fr:ByteArray):List UInt8:=if k=1 then [] else fr.data.toList++[32]
def facL (f:Factor):List UInt8:=kindL f.kind++32 :: (Lib.itoa f.id++32 :: (frmL f.kind f.frm++(f.to.data.toList++32 :: (poseL f.pose.turn f.pose.x f.pose.y++32 :: Lib.itoa f.weight))))
def fmtFac (f:Factor):ByteArray:=if vldFactor f then ⟨(facL f).toArray⟩ else ⟨#[]⟩
def entL (e:Entry):List UInt8:=if e.remove then [114,101,109,111,118,101,32]++Lib.itoa e.id else [97,100,100,32]++facL e.factor
def entSum (e:Entry) (p:Int):Int:=chk ⟨(Lib.itoa p++32 :: entL e).toArray⟩
def entT (e:Entry) (p:Int):ByteArray:=⟨(entL e++32 :: 35 :: (Lib.itoa (entSum e p)++[10])).toArray⟩
def fmtEnt (e:Entry) (p:Int):ByteArray × Int:=if vldEntry e && inR p 0 65520 then (entT e p,entSum e p) else (⟨#[]⟩,0)
def facsL:List Factor→List UInt8 | []=>[] | f :: l=>59 :: (facL f++facsL l)
def bunT (r:Int) (l:List Factor):ByteArray:=⟨([98,117,110,100,108,101,32]++(Lib.itoa r++facsL l)).toArray⟩
theorem itoa_len {n lo hi:Int} (h:inR n lo hi=true) (h0:-9223372036854775808≤lo) (h1:hi≤9223372036854775807):(Lib.itoa n).length≤21:=by
  have:=inR_iff.1 h
  exact Lib.itoa_length_le n (by omega) (by omega)
theorem kindL_len (k:Int):(kindL k).length≤8:=by unfold kindL;repeat (first | (split;decide) | decide | split)
theorem pose_len {t x y:Int} (h:vldPose t x y=true):(poseL t x y).length≤45:=by
  unfold vldPose at h
  simp only [Bool.and_eq_true] at h
  have:=itoa_len h.2.1 (by omega) (by omega)
  have:=itoa_len h.2.2 (by omega) (by omega)
  simp [poseL];omega
theorem vld_parts {f:Factor} (h:vldFactor f=true):inR f.id 0 99999=true∧inR f.weight 1 9999=true∧vldPose f.pose.turn f.pose.x f.pose.y=true∧(f.kind=1∨f.kind=2∨f.kind=3∨f.kind=4)∧(f.kind=1→f.frm.toList=[])∧(f.kind≠1→isPoseNm f.frm=true)∧(isPoseNm f.to=true∨isLandNm f.to=true):=by
  unfold vldFactor vldF at h
  simp only [Bool.and_eq_true] at h
  obtain ⟨h1,h2,h3,h4⟩:=h
  refine ⟨h1,h3,h2,?_⟩
  by_cases k1:f.kind=1
  · rw [if_pos k1] at h4
    simp only [Bool.and_eq_true] at h4
    exact ⟨.inl k1,fun _=>by simpa using h4.1,fun c=>absurd k1 c,.inl h4.2⟩
  rw [if_neg k1] at h4
  by_cases k2:f.kind=2∨f.kind=4
  · rw [if_pos k2] at h4
    simp only [Bool.and_eq_true] at h4
    exact ⟨by omega,fun c=>absurd c k1,fun _=>h4.1,.inl h4.2.1⟩
  rw [if_neg k2] at h4
  by_cases k3:f.kind=3
  · rw [if_pos k3] at h4
    simp only [Bool.and_eq_true] at h4
    exact ⟨by omega,fun c=>absurd c k1,fun _=>h4.1,.inr h4.2.1⟩
  · rw [if_neg k3] at h4;cases h4
theorem conv1 (w:World) (x:Int):(convert 22 9 (.slice (some { block:=w.heap.size,off:=0 }) 1 1)).run Tryz.prog (w.alloc (.cells #[.int .u8 x] 5))=.ok (.string ⟨#[UInt8.ofNat x.toNat]⟩) (w.alloc (.cells #[.int .u8 x] 5)):=by
  rw [run_convert_bytes_string _ _ _ 5 (some ⟨w.heap.size,0,none⟩) 1 1 Tryz.underlying22 Tryz.underlying5 Tryz.underlying9]
  have hl:=run_loadCells_list (P:=Tryz.prog) (w.alloc (.cells #[.int .u8 x] 5)) ⟨w.heap.size,0,none⟩ ([x].map (Value.int .u8)) (fun j v hj=>by
    cases j with
    | zero=>simp only [List.map_cons,List.getElem?_cons_zero,Option.some.injEq] at hj;subst hj;go_simp
    | succ j=>simp at hj)
  rw [run_bytesToString _ _ 1 1 [x] hl]
  rfl
theorem conv1c {W:World} {b:Nat} {x:Int} (hc:W.cell? ⟨b,0,none⟩=some (.int .u8 x)):(convert 22 9 (.slice (some { block:=b,off:=0 }) 1 1)).run Tryz.prog W=.ok (.string ⟨#[UInt8.ofNat x.toNat]⟩) W:=by
  rw [run_convert_bytes_string _ _ _ 5 (some ⟨b,0,none⟩) 1 1 Tryz.underlying22 Tryz.underlying5 Tryz.underlying9]
  have hl:=run_loadCells_list (P:=Tryz.prog) W ⟨b,0,none⟩ ([x].map (Value.int .u8)) (fun j v hj=>by
    cases j with
    | zero=>simp only [List.map_cons,List.getElem?_cons_zero,Option.some.injEq] at hj;subst hj;simpa [Addr.add] using hc
    | succ j=>simp at hj)
  rw [run_bytesToString _ _ 1 1 [x] hl]
  rfl
theorem cell_ad (w:World) (v:Value) (t:TypeId):((w.alloc (.cells #[v] t)).drew).cell? ⟨w.heap.size,0,none⟩=some v:=by go_simp
theorem catOk {a b:ByteArray} (h:a.size+b.size≤1099511627776) (w:World):(Op.stringOp .add a b).run Tryz.prog w=.ok (.string (a++b)) w:=run_string_add_sum w a b (by omega)
theorem spec_FormatInt_pos (N:Nat) (w:World) (hN:N≤9223372036854775807):Calls Tryz.prog 81 #[.int .i64 (N:Int)] w fun e w'=>e=.returned (.string (itoaB (N:Int)))∧Below w.heap.size w w':=by
  go_enter Tryz.func81,Tryz.ntmps81
  go_wp2
  go_loopw [0,3] (fun i s wr=>∃ (n:Nat) (t:ByteArray),n≤9223372036854775807∧i=.int .i64 (n:Int)∧s=.string t∧ItoInv N n t∧Below w.heap.size w wr) (fun i _ _=>(intOf i).toNat)
  case atStart=>exact ⟨N,_,hN,rfl,rfl,ItoInv.start N,Below.refl _ _⟩
  case round =>
    obtain ⟨n,t,hn,rfl,rfl,hi,hb⟩:=hrel
    have hts:=hi.size hN
    by_cases hlt:9 < n
    · have hcv:=conv1 wr (48+(n:Int) % 10)
      have e1:(48+(n:Int) % 10).toNat=48+n % 10:=by omega
      rw [e1] at hcv
      have hnx:=hi.next hlt rfl
      have hca:=fun W=>catOk (a:=⟨#[UInt8.ofNat (48+n % 10)]⟩) (b:=t) (by show 1+_≤_;omega) W
      generalize (ByteArray.mk #[UInt8.ofNat (48+n % 10)]++t)=t2 at hca hnx
      generalize (ByteArray.mk #[UInt8.ofNat (48+n % 10)])=t1 at hca hcv
      go_wp2
      exact ⟨⟨n / 10,t2,by omega,by simp,rfl,hnx,bAlloc hb _⟩,by simp only [intOf];omega⟩
    · have hcv:=conv1 wr (48+(n:Int))
      have e1:(48+(n:Int)).toNat=48+n:=by omega
      rw [e1] at hcv
      have hnx:=hi.done (by omega)
      have hca:=fun W=>catOk (a:=⟨#[UInt8.ofNat (48+n)]⟩) (b:=t) (by show 1+_≤_;omega) W
      rw [hnx] at hca
      generalize (ByteArray.mk #[UInt8.ofNat (48+n)])=t1 at hca hcv
      go_wp2
      go_ret
      exact ⟨rfl,bAlloc hb _⟩
theorem tdiv10 {n:Int} (h:n < 0):n.tdiv 10 = -((-n) / 10):=by
  obtain ⟨m,rfl⟩:∃ m:Nat,n = -(m:Int):=⟨n.natAbs,by omega⟩
  rw [Int.neg_tdiv,Int.neg_neg,Int.tdiv_eq_ediv_of_nonneg (by omega)]
theorem tmod10 {n:Int} (h:n < 0):n.tmod 10 = -((-n) % 10):=by
  obtain ⟨m,rfl⟩:∃ m:Nat,n = -(m:Int):=⟨n.natAbs,by omega⟩
  rw [Int.neg_tmod,Int.neg_neg,Int.tmod_eq_emod_of_nonneg (by omega)]
theorem spec_FormatInt_neg:∀ (k:Nat) (n:Int),n < 0→-9223372036854775808≤n→n.natAbs≤k→∀ w:World,
    Calls Tryz.prog 81 #[.int .i64 n] w fun e w'=>e=.returned (.string (itoaB n))∧Below w.heap.size w w'
  | 0,n,h0,_,hk,_=>by omega
  | k+1,n,h0,hlo,hk,w=>by
    have hd:=tdiv10 h0
    have hm:=tmod10 h0
    by_cases h1:-10 < n
    · have hcv:=fun W=>conv1 W (48 - n)
      have hnx:=itoa_neg1 h0 h1
      have hca:=fun W=>catOk (a:=⟨#[45]⟩) (b:=⟨#[UInt8.ofNat (48 - n).toNat]⟩) (by show 1+1≤_;omega) W
      rw [← hnx] at hca
      have hq:n.tdiv 10=0:=by omega
      generalize (ByteArray.mk #[UInt8.ofNat (48 - n).toNat])=t1 at hca hcv
      clear hnx hd hm
      go_enter Tryz.func81,Tryz.ntmps81
      go_wp2
      go_ret
      exact ⟨rfl,bAlloc (Below.refl _ _) _⟩
    · have hq:n.tdiv 10≠0:=by omega
      have ih:=spec_FormatInt_neg k (n.tdiv 10) (by omega) (by omega) (by omega)
      have hr0:n.tmod 10≤0:=by omega
      have hr1:-9≤n.tmod 10:=by omega
      have hcv:=fun W=>conv1 W (48 - n.tmod 10)
      have hnx:=itoa_neg2 (n:=n) (by omega)
      have hsz:=itoaB_size (n:=n.tdiv 10) (by omega) (by omega)
      have hca:=fun W=>catOk (a:=itoaB (n.tdiv 10)) (b:=⟨#[UInt8.ofNat (48 - n.tmod 10).toNat]⟩) (by show _+1≤_;omega) W
      rw [← hnx] at hca
      generalize ht1:(ByteArray.mk #[UInt8.ofNat (48 - n.tmod 10).toNat])=t1 at hca hcv
      generalize itoaB (n.tdiv 10)=t2 at hca ih
      clear hnx hsz
      have hq0:-922337203685477581≤n.tdiv 10:=by omega
      have hq1:n.tdiv 10≤-1:=by omega
      generalize hQ:n.tdiv 10=q at *
      generalize hR:n.tmod 10=r at *
      clear hd hm h1 hk
      have IH:=Lib.hid ih
      clear ih
      go_enter Tryz.func81,Tryz.ntmps81
      go_wp2_with fail
      have hw1:IntKind.i64.wrap q=q:=by rw [IntKind.wrap_i64];omega
      have hw2:IntKind.i64.wrap (48 - r)=48 - r:=by rw [IntKind.wrap_i64];omega
      have hw3:IntKind.u8.wrap (48 - r)=48 - r:=by simp [IntKind.wrap,IntKind.bits,IntKind.signed];omega
      have hcvd:∀ W:World,(convert 22 9 (.slice (some { block:=W.heap.size,off:=0 }) 1 1)).run Tryz.prog (W.alloc (.cells #[.int .u8 (48 - r)] 5)).drew=.ok (.string t1) (W.alloc (.cells #[.int .u8 (48 - r)] 5)).drew:=fun W=>by have:=conv1c (cell_ad W (.int .u8 (48 - r)) 5);rw [ht1] at this;exact this
      go_region_with (first | (go_at_call 81;refine (IH.out _).mono ?_;rintro e w1 ⟨rfl,hb1⟩;first | (have hcv2:=conv1c (bCell hb1 (cell_ad w (.int .u8 (48 - r)) 5));rw [ht1] at hcv2) | skip))
      all_goals
        go_wp2
        go_ret
        exact ⟨rfl,by repeat (first | with_reducible exact Below.refl _ _ | with_reducible refine bAlloc ?_ _ | with_reducible refine bDrew ?_ | with_reducible refine bTrans ?_ hb1)⟩
theorem spec_FormatInt_c (n:Int) (w:World) (h0:-9223372036854775808≤n) (h1:n≤9223372036854775807):Calls Tryz.prog 81 #[.int .i64 n] w fun e w'=>e=.returned (.string (itoaB n))∧Below w.heap.size w w':=by
  by_cases hn:n < 0
  · exact spec_FormatInt_neg _ n hn h0 (Nat.le_refl _) w
  · obtain ⟨m,rfl⟩:=Int.eq_ofNat_of_zero_le (show 0≤n by omega)
    exact spec_FormatInt_pos m w (by omega)
end Go.Proofs.YtdfemnffpaopfaaGreatDoor

namespace Go.Proofs.YtdfemnffpaopfaaGreatDoor
open Go.RowKit
set_option linter.unusedVariables false
set_option linter.unusedSimpArgs false
section
variable {P:Program} {md:Region.Mode} {ops:Array Oper} {Q:Exit→Act→World→Prop}
theorem count_set:∀ (l:List Bool) (i:Nat),l[i]? = some false→(l.set i true).count false+1=l.count false
  | b :: l,0,h=>by simp only [List.getElem?_cons_zero,Option.some.injEq] at h;subst h;simp
  | b :: l,i+1,h=>by
    simp only [List.getElem?_cons_succ] at h
    have:=count_set l i h
    rw [List.set_cons_succ,List.count_cons,List.count_cons];omega
theorem wpAny_inv {I:Array Bool→Act→World→Prop}
    (hstep:∀ listed a w,I listed a w→∀ i∈Region.ready md ops listed,wpOp P ops Q i (I (listed.setIfInBounds i true)) a w)
    (hend:∀ listed a w,I listed a w→Region.ready md ops listed=[]→Q .normal a w) :
    ∀ (fuel:Nat) (listed:Array Bool) (a:Act) (w:World),listed.toList.count false≤fuel→I listed a w→wpAny P md ops Q fuel listed a w
  | 0,listed,a,w,hf,hi=>by
    have hr:Region.ready md ops listed=[]:=by
      rw [List.eq_nil_iff_forall_not_mem]
      intro i him
      obtain ⟨h1,_⟩:=mem_ready.1 him
      have h0:listed.toList.count false=0:=by omega
      rw [List.count_eq_zero] at h0
      apply h0
      rcases Nat.lt_or_ge i listed.size with h | h
      · simp [Array.getD,h] at h1
        rw [← h1];simp
      · rw [Array.getD,dif_neg (by omega)] at h1;cases h1
    exact ⟨hr,hend _ _ _ hi hr⟩
  | fuel+1,listed,a,w,hf,hi=>by
    refine ⟨fun hr=>hend _ _ _ hi hr,fun i him=>?_⟩
    have hs:=hstep _ _ _ hi i him
    obtain ⟨h1,_⟩:=mem_ready.1 him
    have hlt:i < listed.size:=by
      rcases Nat.lt_or_ge i listed.size with h | h
      · exact h
      · rw [Array.getD,dif_neg (by omega)] at h1;cases h1
    have hc:=count_set listed.toList i (by simp [Array.getD,hlt] at h1;simp [hlt,h1])
    refine wpOp_mono (fun a' w' h=>wpAny_inv hstep hend fuel _ a' w' ?_ h) hs
    rw [Array.setIfInBounds,dif_pos hlt,Array.toList_set]
    omega
end
theorem wp_region_inv {P:Program} {ops:Array Oper} {Q:Exit→Act→World→Prop} {id:Nat} {a:Act} {w:World} (I:Array Bool→Act→World→Prop) (hm:P.follows .mixedOrders=true)
    (h0:I (Array.replicate ops.size false) a w.drew)
    (hstep:∀ listed a w,I listed a w→∀ i∈Region.ready .any ops listed,wpOp P ops Q i (I (listed.setIfInBounds i true)) a w)
    (hend:∀ listed a w,I listed a w→Region.ready .any ops listed=[]→Q .normal a w):(Code.region id ops true).wp P Q a w :=
  wp_region_any hm (wpAny_inv hstep hend _ _ _ _ (by simp [List.count_replicate]) h0)
theorem ready_nil {md:Region.Mode} {ops:Array Oper} {listed:Array Bool} (h:Region.ready md ops listed=[]) (hlt:(List.range ops.size).all (fun j=>match ops[j]? with | some o=>o.after.all fun e=>decide (e.on < j) | none=>true)=true) :
    ∀ n j,j < n→j < ops.size→listed.getD j true=true:=by
  intro n
  induction n with
  | zero=>intro j hj;omega
  | succ n ih =>
    intro j hj hs
    cases hb:listed.getD j true with
    | true=>rfl
    | false =>
      exfalso
      have hm:j∈Region.ready md ops listed:=by
        rw [mem_ready]
        refine ⟨hb,ops[j],by simp [hs],fun e he _=>?_⟩
        have h1:=List.all_eq_true.1 hlt j (List.mem_range.2 hs)
        simp only [hs,Array.getElem?_eq_getElem] at h1
        have h2:e.on < j:=by
          have:=Array.all_eq_true_iff_forall_mem.1 h1 e he
          simpa using this
        have h3:=ih e.on (by omega) (by omega)
        rcases Nat.lt_or_ge e.on listed.size with h | h
        · simp [Array.getD,h] at h3 ⊢;exact h3
        · have hj2:listed.getD j true=true:=by rw [Array.getD,dif_neg (by omega)]
          rw [hj2] at hb;cases hb
      rw [h] at hm
      cases hm
end Go.Proofs.YtdfemnffpaopfaaGreatDoor

