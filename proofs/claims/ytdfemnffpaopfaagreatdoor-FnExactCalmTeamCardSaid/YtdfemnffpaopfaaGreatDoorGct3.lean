/- Texts of this proof, one behind the other: Mark, Obj. -/
import Derived.Test.YtdfemnffpaopfaaGreatDoorProg
import Derived.Deep.RegionHeld3
import Derived.Test.YtdfemnffpaopfaaGreatDoorGct2
namespace Go.Proofs.YtdfemnffpaopfaaGreatDoor
open Go.RowKit
set_option linter.unusedVariables false
set_option linter.unusedSimpArgs false
set_option maxHeartbeats 400000
set_option maxRecDepth 100000
def mdig (n:Nat) (acc:List UInt8):List UInt8:=if n=0 then acc else mdig (n / 10) ((48+UInt8.ofNat (n % 10)) :: acc)
termination_by n
decreasing_by omega
def markTxt (k:Int):ByteArray:=if k≤0 then ⟨#[109,48]⟩ else ⟨(109 :: mdig k.toNat []).toArray⟩

theorem mstep (n:Nat) (acc:List UInt8) (h:0 < n):mdig n acc=mdig (n / 10) ((48+UInt8.ofNat (n % 10)) :: acc):=by
  rw [mdig,if_neg (by omega)]
def MB (n:Nat) (acc:List UInt8):Prop:=n * 10 ^ acc.length≤9223372036854775807
def MI (k:Int):Prop:=k≤9223372036854775807
theorem MB.zero {k:Int} (h:MI k):MB k.toNat []:=by
  have:k≤9223372036854775807:=h
  simp [MB];omega
theorem MB.len {n:Nat} {acc:List UInt8} (h:MB n acc) (hn:0 < n):acc.length≤18:=by
  have h':n * 10 ^ acc.length≤9223372036854775807:=h
  rcases Nat.lt_or_ge 18 acc.length with hl | hl
  · have h1:10 ^ 19≤10 ^ acc.length:=Nat.pow_le_pow_right (by omega) hl
    have h2:1 * 10 ^ acc.length≤n * 10 ^ acc.length:=Nat.mul_le_mul_right _ hn
    have h3:(10:Nat) ^ 19=10000000000000000000:=by decide
    omega
  · exact hl
theorem MB.next {n:Nat} {acc:List UInt8} (b:UInt8) (h:MB n acc):MB (n / 10) (b :: acc):=by
  have h':n * 10 ^ acc.length≤9223372036854775807:=h
  have h1:n / 10 * 10 ^ (acc.length+1)=(n / 10 * 10) * 10 ^ acc.length:=by rw [Nat.pow_succ,Nat.mul_comm (10 ^ acc.length) 10,Nat.mul_assoc]
  have h2:(n / 10 * 10) * 10 ^ acc.length≤n * 10 ^ acc.length:=Nat.mul_le_mul_right _ (Nat.div_mul_le_self n 10)
  unfold MB
  rw [List.length_cons,h1]
  omega
theorem MB.wrap {n:Nat} {acc:List UInt8} (h:MB n acc):wrap64 ((n:Int) / 10)=(n:Int) / 10:=by
  have h':n * 10 ^ acc.length≤9223372036854775807:=h
  have h1:n * 1≤n * 10 ^ acc.length:=Nat.mul_le_mul_left _ (Nat.pow_pos (by omega))
  exact IntWalk.wrap64_in _ ⟨by omega,by omega⟩
theorem mless {n:Nat} {acc:List UInt8} (h:MB n acc) (hp:0 < n):(intOf (.int .i64 (wrap64 ((n:Int) / 10)))).toNat < (intOf (.int .i64 (n:Int))).toNat:=by
  rw [h.wrap]
  show ((n:Int) / 10).toNat < (n:Int).toNat
  omega
set_option maxRecDepth 100000 in
theorem markText_c (k:Int) (w:World) (hk:MI k) :
    Calls Tryz.prog 115 #[.int .i64 k] w fun e w'=>e=.returned (.string (markTxt k))∧Below w.heap.size w w':=by
  by_cases h0:k≤0
  · go_enter Tryz.func115,Tryz.ntmps115
    go_wp2
    go_ret
    exact ⟨by simp [markTxt,h0],Below.refl _ _⟩
  · have hpos:0 < k:=by omega
    have kb:=fun (w:World) (n:Int)=>run_byte1 (P:=Tryz.prog) 22 9 5 5 Tryz.underlying22 Tryz.underlying5 Tryz.underlying9 w n
    go_enter Tryz.func115,Tryz.ntmps115
    go_wp2
    go_loopw [0,3] (fun i s wr=>∃ (n:Nat) (acc:List UInt8),i=.int .i64 n∧s=.string ⟨acc.toArray⟩∧acc.length≤19∧MB n acc∧Hid (mdig n acc=mdig k.toNat [])∧Below w.heap.size w wr) (fun i _ _=>(intOf i).toNat)
    case atStart=>exact ⟨k.toNat,[],by go_num,rfl,by simp,MB.zero hk,rfl,Below.refl _ _⟩
    case round =>
      obtain ⟨n,acc,rfl,rfl,hl,hm,he,hb⟩:=hrel
      by_cases hp:0 < n
      · have hl2:=hm.len hp
        have hst:=Lib.hid (mstep n acc hp)
        have hw:=hm.wrap
        go_wp2
        go_roundw
        case rel=>exact ⟨n / 10,(48+UInt8.ofNat (n % 10)) :: acc,by go_num,by rw [push_front],by simp;omega,hm.next _,by have:=he.out;rw [hst.out] at this;exact this,bAlloc hb _⟩
        case measure=>exact mless hm hp
      · have hfin:Hid (acc=mdig k.toNat []):=by have:=he.out;rw [mdig,if_pos (by omega)] at this;exact this
        go_wp2
        go_ret
        refine ⟨?_,hb⟩
        rw [push_front,hfin.out,markTxt,if_neg (by omega)]
        rfl

theorem sz_int:(Tryz.prog.info? 3).map (·.size)=some 1:=by kernel_rfl
theorem sz_str:(Tryz.prog.info? 9).map (·.size)=some 1:=by kernel_rfl
theorem MI.of {k:Int} (h:k≤1000000000000):MI k:=by unfold MI;omega
def mkCFactor (k:Int):List Value:=[.int .i64 (k),.int .i64 (k+1),.string (markTxt (k+2)),.string (markTxt (k+3)),.int .i64 (k+4),.int .i64 (k+5),.int .i64 (k+6),.int .i64 (k+7)]
def markFactor (k0:Int) (i:Nat):List Value:=mkCFactor (k0+8 * (i:Int))
set_option maxRecDepth 100000 in
theorem markFactorS_c (A:Option Addr) (n c B:Nat) (css:List (List Value)) (k0:Int) (w:World) (hn:n≤4194304) (hk0:0≤k0) (hk1:k0≤100000000000) (ho:Own w B 34 8 A n c css) :
    Calls Tryz.prog 114 #[.slice A n c,.int .i64 k0] w fun e w'=>e=rInt (k0+8 * n)∧Own w' B 34 8 A n c ((List.range n).map (markFactor k0))∧w.grownBy w' (ob A):=by
  have hlc:=Lib.hid ho.len
  go_enter Tryz.func114,Tryz.ntmps114
  go_wp2
  go_loopw [1,5] (fun q i wr=>∃ (k:Nat),k≤n∧i=.int .i64 k∧q=.int .i64 (k0+8 * k)∧Own wr B 34 8 A n c (Mrk (markFactor k0) css k)∧w.grownBy wr (ob A)) (fun _ i _=>n - (intOf i).toNat)
  case atStart=>exact ⟨0,by omega,rfl,by go_num,by rw [Mrk.zero];exact ho,World.grownBy.refl _ _⟩
  case round =>
    obtain ⟨k,hk,rfl,rfl,hown,hgr⟩:=hrel
    by_cases hlt:k < n
    · rcases hown.cases with ⟨_,h0,_⟩ | ⟨g,rfl,hgB,hgl,hnc,hcm⟩
      · omega
      clear ho
      obtain ⟨cs,hcs⟩:=Mrk.get_ (mk:=markFactor k0) hlc.out hlt
      obtain ⟨v0,v1,v2,v3,v4,v5,v6,v7,rfl⟩:=vlen8 (hown.each cs (List.mem_of_getElem? hcs))
      have tok0:True:=trivial
      go_wp2_with (first
        | (go_at_call 115;refine (markText_c _ _ (MI.of (by omega))).mono ?_;rintro e w2 ⟨rfl,hb2⟩;have hown2:=hown.below hb2;have hgr2:=gBelow hgr hb2;clear hown hgr hb2;have hown:=hown2;have hgr:=hgr2;clear hown2 hgr2)
        | (have _t:=tok0;refine wpList_store_cell rfl _ _ _ rfl B 34 8 n c g k 0 _ (by omega) (by omega) _ _ rfl (.int .i64 (k0+8 * (k:Int))) rfl rfl rfl (by first | exact sz_int | exact sz_str) hown hcs ?_;clear hown hcs;intro w1 hown hcs hg1;have hgr2:=gTrans hgr hg1;clear hgr hg1;have hgr:=hgr2;clear hgr2 tok0 _t;have tok1:True:=trivial)
        | (have _t:=tok1;refine wpList_store_cell rfl _ _ _ rfl B 34 8 n c g k 1 _ (by omega) (by omega) _ _ rfl (.int .i64 (k0+8 * (k:Int)+1)) rfl rfl rfl (by first | exact sz_int | exact sz_str) hown hcs ?_;clear hown hcs;intro w1 hown hcs hg1;have hgr2:=gTrans hgr hg1;clear hgr hg1;have hgr:=hgr2;clear hgr2 tok1 _t;have tok2:True:=trivial)
        | (have _t:=tok2;refine wpList_store_cell rfl _ _ _ rfl B 34 8 n c g k 2 _ (by omega) (by omega) _ _ rfl (.string (markTxt (k0+8 * (k:Int)+1+1))) rfl rfl rfl (by first | exact sz_int | exact sz_str) hown hcs ?_;clear hown hcs;intro w1 hown hcs hg1;have hgr2:=gTrans hgr hg1;clear hgr hg1;have hgr:=hgr2;clear hgr2 tok2 _t;have tok3:True:=trivial)
        | (have _t:=tok3;refine wpList_store_cell rfl _ _ _ rfl B 34 8 n c g k 3 _ (by omega) (by omega) _ _ rfl (.string (markTxt (k0+8 * (k:Int)+1+1+1))) rfl rfl rfl (by first | exact sz_int | exact sz_str) hown hcs ?_;clear hown hcs;intro w1 hown hcs hg1;have hgr2:=gTrans hgr hg1;clear hgr hg1;have hgr:=hgr2;clear hgr2 tok3 _t;have tok4:True:=trivial)
        | (have _t:=tok4;refine wpList_store_cell rfl _ _ _ rfl B 34 8 n c g k 4 _ (by omega) (by omega) _ _ rfl (.int .i64 (k0+8 * (k:Int)+1+1+1+1)) rfl rfl rfl (by first | exact sz_int | exact sz_str) hown hcs ?_;clear hown hcs;intro w1 hown hcs hg1;have hgr2:=gTrans hgr hg1;clear hgr hg1;have hgr:=hgr2;clear hgr2 tok4 _t;have tok5:True:=trivial)
        | (have _t:=tok5;refine wpList_store_cell rfl _ _ _ rfl B 34 8 n c g k 5 _ (by omega) (by omega) _ _ rfl (.int .i64 (k0+8 * (k:Int)+1+1+1+1+1)) rfl rfl rfl (by first | exact sz_int | exact sz_str) hown hcs ?_;clear hown hcs;intro w1 hown hcs hg1;have hgr2:=gTrans hgr hg1;clear hgr hg1;have hgr:=hgr2;clear hgr2 tok5 _t;have tok6:True:=trivial)
        | (have _t:=tok6;refine wpList_store_cell rfl _ _ _ rfl B 34 8 n c g k 6 _ (by omega) (by omega) _ _ rfl (.int .i64 (k0+8 * (k:Int)+1+1+1+1+1+1)) rfl rfl rfl (by first | exact sz_int | exact sz_str) hown hcs ?_;clear hown hcs;intro w1 hown hcs hg1;have hgr2:=gTrans hgr hg1;clear hgr hg1;have hgr:=hgr2;clear hgr2 tok6 _t;have tok7:True:=trivial)
        | (have _t:=tok7;refine wpList_store_cell rfl _ _ _ rfl B 34 8 n c g k 7 _ (by omega) (by omega) _ _ rfl (.int .i64 (k0+8 * (k:Int)+1+1+1+1+1+1+1)) rfl rfl rfl (by first | exact sz_int | exact sz_str) hown hcs ?_;clear hown hcs;intro w1 hown hcs hg1;have hgr2:=gTrans hgr hg1;clear hgr hg1;have hgr:=hgr2;clear hgr2 tok7 _t;have tok8:True:=trivial))
      simp only [List.set_set,List.set_cons_zero,List.set_cons_succ] at hown
      rw [Mrk.next hlc.out hlt (by simp [markFactor,mkCFactor,Int.add_assoc])] at hown
      go_roundw
      case rel=>exact ⟨k+1,by omega,by go_num,by first | go_num | (congr 1;omega),hown,hgr⟩
      case measure=>simp [intOf];omega
    · rw [Mrk.end_ hlc.out hlt hk] at hown
      go_wp2
      go_ret
      exact ⟨by rw [show k=n by omega];rfl,hown,hgr⟩


def mkCString (k:Int):List Value:=[.string (markTxt (k))]
def markString (k0:Int) (i:Nat):List Value:=mkCString (k0+1 * (i:Int))
set_option maxRecDepth 100000 in
theorem markStringS_c (A:Option Addr) (n c B:Nat) (css:List (List Value)) (k0:Int) (w:World) (hn:n≤4194304) (hk0:0≤k0) (hk1:k0≤100000000000) (ho:Own w B 9 1 A n c css) :
    Calls Tryz.prog 157 #[.slice A n c,.int .i64 k0] w fun e w'=>e=rInt (k0+1 * n)∧Own w' B 9 1 A n c ((List.range n).map (markString k0))∧w.grownBy w' (ob A):=by
  have hlc:=Lib.hid ho.len
  go_enter Tryz.func157,Tryz.ntmps157
  go_wp2
  go_loopw [1,5] (fun q i wr=>∃ (k:Nat),k≤n∧i=.int .i64 k∧q=.int .i64 (k0+1 * k)∧Own wr B 9 1 A n c (Mrk (markString k0) css k)∧w.grownBy wr (ob A)) (fun _ i _=>n - (intOf i).toNat)
  case atStart=>exact ⟨0,by omega,rfl,by go_num,by rw [Mrk.zero];exact ho,World.grownBy.refl _ _⟩
  case round =>
    obtain ⟨k,hk,rfl,rfl,hown,hgr⟩:=hrel
    by_cases hlt:k < n
    · rcases hown.cases with ⟨_,h0,_⟩ | ⟨g,rfl,hgB,hgl,hnc,hcm⟩
      · omega
      clear ho
      obtain ⟨cs,hcs⟩:=Mrk.get_ (mk:=markString k0) hlc.out hlt
      obtain ⟨v0,rfl⟩:=vlen1 (hown.each cs (List.mem_of_getElem? hcs))
      have tok0:True:=trivial
      go_wp2_with (first
        | (go_at_call 115;refine (markText_c _ _ (MI.of (by omega))).mono ?_;rintro e w2 ⟨rfl,hb2⟩;have hown2:=hown.below hb2;have hgr2:=gBelow hgr hb2;clear hown hgr hb2;have hown:=hown2;have hgr:=hgr2;clear hown2 hgr2)
        | (have _t:=tok0;refine wpList_store_cell rfl _ _ _ rfl B 9 1 n c g k 0 _ (by omega) (by omega) _ _ rfl (.string (markTxt (k0+(k:Int)))) rfl rfl rfl (by first | exact sz_int | exact sz_str) hown hcs ?_;clear hown hcs;intro w1 hown hcs hg1;have hgr2:=gTrans hgr hg1;clear hgr hg1;have hgr:=hgr2;clear hgr2 tok0 _t;have tok1:True:=trivial))
      simp only [List.set_set,List.set_cons_zero,List.set_cons_succ] at hown
      rw [Mrk.next hlc.out hlt (by simp [markString,mkCString,Int.add_assoc])] at hown
      go_roundw
      case rel=>exact ⟨k+1,by omega,by go_num,by first | go_num | (congr 1;omega),hown,hgr⟩
      case measure=>simp [intOf];omega
    · rw [Mrk.end_ hlc.out hlt hk] at hown
      go_wp2
      go_ret
      exact ⟨by rw [show k=n by omega];rfl,hown,hgr⟩

set_option maxRecDepth 100000 in
theorem heldFactorS_c (A:Option Addr) (n c:Nat) (k0:Int) (w:World) (hn:n≤4194304) (hk0:0≤k0) (hk1:k0≤100000000000) (hr:Row w A n 8 ((List.range n).map (markFactor k0))) :
    Calls Tryz.prog 117 #[.slice A n c,.int .i64 k0] w fun e w'=>e=rInt (k0+8 * n)∧Below w.heap.size w w':=by
  go_enter Tryz.func117,Tryz.ntmps117
  go_wp2
  go_loopw [1,5] (fun q i wr=>∃ (k:Nat),k≤n∧i=.int .i64 k∧q=.int .i64 (k0+8 * k)∧Below w.heap.size w wr) (fun _ i _=>n - (intOf i).toNat)
  case atStart=>exact ⟨0,by omega,rfl,by go_num,Below.refl _ _⟩
  case round =>
    obtain ⟨k,hk,rfl,rfl,hb⟩:=hrel
    by_cases hlt:k < n
    · obtain ⟨i,g,off,hi,rfl,hc⟩:=Row.at_ (hr.below hb) hlt
      obtain rfl:k=i:=by have:=hi.out;simp [hlt] at this;omega
      have g0:wr.cell? ⟨g,off+k * 8,none⟩=some (.int .i64 (k0+8 * (k:Int))):=by have:=hc 0 _ rfl;simpa [Int.add_assoc] using this
      have g1:wr.cell? ⟨g,off+k * 8+1,none⟩=some (.int .i64 (k0+8 * (k:Int)+1)):=by have:=hc 1 _ rfl;simpa [Int.add_assoc] using this
      have g2:wr.cell? ⟨g,off+k * 8+2,none⟩=some (.string (markTxt (k0+8 * (k:Int)+1+1))):=by have:=hc 2 _ rfl;simpa [Int.add_assoc] using this
      have g3:wr.cell? ⟨g,off+k * 8+3,none⟩=some (.string (markTxt (k0+8 * (k:Int)+1+1+1))):=by have:=hc 3 _ rfl;simpa [Int.add_assoc] using this
      have g4:wr.cell? ⟨g,off+k * 8+4,none⟩=some (.int .i64 (k0+8 * (k:Int)+1+1+1+1)):=by have:=hc 4 _ rfl;simpa [Int.add_assoc] using this
      have g5:wr.cell? ⟨g,off+k * 8+5,none⟩=some (.int .i64 (k0+8 * (k:Int)+1+1+1+1+1)):=by have:=hc 5 _ rfl;simpa [Int.add_assoc] using this
      have g6:wr.cell? ⟨g,off+k * 8+6,none⟩=some (.int .i64 (k0+8 * (k:Int)+1+1+1+1+1+1)):=by have:=hc 6 _ rfl;simpa [Int.add_assoc] using this
      have g7:wr.cell? ⟨g,off+k * 8+7,none⟩=some (.int .i64 (k0+8 * (k:Int)+1+1+1+1+1+1+1)):=by have:=hc 7 _ rfl;simpa [Int.add_assoc] using this
      clear hc hr
      have z0:(0:Int)≤(k:Int):=by omega
      have z1:(k:Int) < (n:Int):=by omega
      go_wp2_with fail
      go_region_held3 (fun w'=>w'.cell? ⟨g,off+k * 8+2,none⟩=some (.string (markTxt (k0+8 * (k:Int)+1+1)))∧w'.cell? ⟨g,off+k * 8+3,none⟩=some (.string (markTxt (k0+8 * (k:Int)+1+1+1)))∧w'.cell? ⟨g,off+k * 8+4,none⟩=some (.int .i64 (k0+8 * (k:Int)+1+1+1+1))∧w'.cell? ⟨g,off+k * 8+5,none⟩=some (.int .i64 (k0+8 * (k:Int)+1+1+1+1+1))∧w'.cell? ⟨g,off+k * 8+6,none⟩=some (.int .i64 (k0+8 * (k:Int)+1+1+1+1+1+1))∧w'.cell? ⟨g,off+k * 8+7,none⟩=some (.int .i64 (k0+8 * (k:Int)+1+1+1+1+1+1+1))) (first | go_keep | ((repeat' apply And.intro) <;> exact bCell hb1 (by assumption))) ((go_at_call 115;refine (markText_c _ _ (MI.of (by omega))).mono ?_;rintro e w1 ⟨rfl,hb1⟩))
      have g3:w1.cell? ⟨g,off+k * 8+3,none⟩=some (.string (markTxt (k0+8 * (k:Int)+1+1+1))):=bCell hb1 g3
      have g4:w1.cell? ⟨g,off+k * 8+4,none⟩=some (.int .i64 (k0+8 * (k:Int)+1+1+1+1)):=bCell hb1 g4
      have g5:w1.cell? ⟨g,off+k * 8+5,none⟩=some (.int .i64 (k0+8 * (k:Int)+1+1+1+1+1)):=bCell hb1 g5
      have g6:w1.cell? ⟨g,off+k * 8+6,none⟩=some (.int .i64 (k0+8 * (k:Int)+1+1+1+1+1+1)):=bCell hb1 g6
      have g7:w1.cell? ⟨g,off+k * 8+7,none⟩=some (.int .i64 (k0+8 * (k:Int)+1+1+1+1+1+1+1)):=bCell hb1 g7
      have hb:=bTrans (bDrew hb) hb1
      go_wp2_with fail
      go_region_held3 (fun w'=>w'.cell? ⟨g,off+k * 8+3,none⟩=some (.string (markTxt (k0+8 * (k:Int)+1+1+1)))∧w'.cell? ⟨g,off+k * 8+4,none⟩=some (.int .i64 (k0+8 * (k:Int)+1+1+1+1))∧w'.cell? ⟨g,off+k * 8+5,none⟩=some (.int .i64 (k0+8 * (k:Int)+1+1+1+1+1))∧w'.cell? ⟨g,off+k * 8+6,none⟩=some (.int .i64 (k0+8 * (k:Int)+1+1+1+1+1+1))∧w'.cell? ⟨g,off+k * 8+7,none⟩=some (.int .i64 (k0+8 * (k:Int)+1+1+1+1+1+1+1))) (first | go_keep | ((repeat' apply And.intro) <;> exact bCell hb2 (by assumption))) ((go_at_call 115;refine (markText_c _ _ (MI.of (by omega))).mono ?_;rintro e w2 ⟨rfl,hb2⟩))
      have g4:w2.cell? ⟨g,off+k * 8+4,none⟩=some (.int .i64 (k0+8 * (k:Int)+1+1+1+1)):=bCell hb2 g4
      have g5:w2.cell? ⟨g,off+k * 8+5,none⟩=some (.int .i64 (k0+8 * (k:Int)+1+1+1+1+1)):=bCell hb2 g5
      have g6:w2.cell? ⟨g,off+k * 8+6,none⟩=some (.int .i64 (k0+8 * (k:Int)+1+1+1+1+1+1)):=bCell hb2 g6
      have g7:w2.cell? ⟨g,off+k * 8+7,none⟩=some (.int .i64 (k0+8 * (k:Int)+1+1+1+1+1+1+1)):=bCell hb2 g7
      have hb:=bTrans (bDrew hb) hb2
      go_wp2_with fail
      go_roundw
      case rel=>exact ⟨k+1,by omega,by go_num,by first | go_num | (congr 1;omega),hb⟩
      case measure=>simp [intOf];omega
    · go_wp2
      go_ret
      exact ⟨by rw [show k=n by omega];rfl,hb⟩


set_option maxRecDepth 100000 in
theorem heldStringS_c (A:Option Addr) (n c:Nat) (k0:Int) (w:World) (hn:n≤4194304) (hk0:0≤k0) (hk1:k0≤100000000000) (hr:Row w A n 1 ((List.range n).map (markString k0))) :
    Calls Tryz.prog 159 #[.slice A n c,.int .i64 k0] w fun e w'=>e=rInt (k0+1 * n)∧Below w.heap.size w w':=by
  go_enter Tryz.func159,Tryz.ntmps159
  go_wp2
  go_loopw [1,5] (fun q i wr=>∃ (k:Nat),k≤n∧i=.int .i64 k∧q=.int .i64 (k0+1 * k)∧Below w.heap.size w wr) (fun _ i _=>n - (intOf i).toNat)
  case atStart=>exact ⟨0,by omega,rfl,by go_num,Below.refl _ _⟩
  case round =>
    obtain ⟨k,hk,rfl,rfl,hb⟩:=hrel
    by_cases hlt:k < n
    · obtain ⟨i,g,off,hi,rfl,hc⟩:=Row.at_ (hr.below hb) hlt
      obtain rfl:k=i:=by have:=hi.out;simp [hlt] at this;omega
      have g0:wr.cell? ⟨g,off+k,none⟩=some (.string (markTxt (k0+(k:Int)))):=by have:=hc 0 _ rfl;simpa [Int.add_assoc] using this
      clear hc hr
      have z0:(0:Int)≤(k:Int):=by omega
      have z1:(k:Int) < (n:Int):=by omega
      go_wp2_with fail
      go_region_held3 (fun w'=>w'.cell? ⟨g,off+k,none⟩=some (.string (markTxt (k0+(k:Int))))) (first | go_keep | ((repeat' apply And.intro) <;> exact bCell hb1 (by assumption))) ((go_at_call 115;refine (markText_c _ _ (MI.of (by omega))).mono ?_;rintro e w1 ⟨rfl,hb1⟩))
      have hb:=bTrans (bDrew hb) hb1
      go_wp2_with fail
      go_roundw
      case rel=>exact ⟨k+1,by omega,by go_num,by first | go_num | (congr 1;omega),hb⟩
      case measure=>simp [intOf];omega
    · go_wp2
      go_ret
      exact ⟨by rw [show k=n by omega];rfl,hb⟩

end Go.Proofs.YtdfemnffpaopfaaGreatDoor

namespace Go.Proofs.YtdfemnffpaopfaaGreatDoor
open Go.RowKit
set_option linter.unusedVariables false
set_option linter.unusedSimpArgs false

structure Sv where
  A:Option Addr
  n:Nat
  c:Nat
def obl (A:Option Addr):List Nat:=(ob A).toList
theorem mem_obl {A:Option Addr} {k:Nat}:k∈obl A ↔ ob A=some k:=by
  unfold obl;cases ob A <;> simp [eq_comm]
structure Upd (fs:List Nat) (w w':World):Prop where
  os:w'.os=w.os
  tape:w'.tape=w.tape
  output:w'.output=w.output
  size:w.heap.size≤w'.heap.size
  block:∀ k,k < w.heap.size→k ∉ fs→w'.heap[k]? = w.heap[k]?
theorem Upd.refl (fs:List Nat) (w:World):Upd fs w w:=⟨rfl,rfl,rfl,Nat.le_refl _,fun _ _ _=>rfl⟩
theorem Upd.trans {fs:List Nat} {a b c:World} (h:Upd fs a b) (k:Upd fs b c):Upd fs a c :=
  ⟨k.os.trans h.os,k.tape.trans h.tape,k.output.trans h.output,Nat.le_trans h.size k.size,fun i hi hn=>(k.block i (Nat.lt_of_lt_of_le hi h.size) hn).trans (h.block i hi hn)⟩
theorem Upd.mono {fs fs':List Nat} {a b:World} (h:Upd fs a b) (hs:∀ k∈fs,k∈fs'):Upd fs' a b :=
  ⟨h.os,h.tape,h.output,h.size,fun i hi hn=>h.block i hi (fun hm=>hn (hs i hm))⟩
theorem Upd.of_below {fs:List Nat} {a b:World} (h:Below a.heap.size a b):Upd fs a b :=
  ⟨h.os,h.tape,h.output,h.size,fun i hi _=>h.block i hi⟩
theorem Upd.of_grown {fs:List Nat} {a b:World} {row:Option Nat} (h:a.grownBy b row) (hr:∀ k,row=some k→k∈fs):Upd fs a b :=
  ⟨h.os,h.tape,h.output,h.size,fun i hi hn=>h.block i hi (fun e=>hn (hr i e.symm))⟩
theorem Upd.then_below {fs:List Nat} {a b c:World} (h:Upd fs a b) (k:Below b.heap.size b c):Upd fs a c:=h.trans (Upd.of_below k)
theorem Upd.set_in {fs:List Nat} {a w:World} (h:Upd fs a w) {p:Addr} (hp:p.block∈fs) (u:Value):Upd fs a (w.setCell p u) :=
  ⟨h.os,h.tape,h.output,by simpa [World.setCell] using h.size,fun k hk hn=>(Below.heap_setCell _ _ _ _ (fun e=>hn (by rw [e];exact hp))).trans (h.block k hk hn)⟩
theorem Upd.alloc_ {fs:List Nat} {a w:World} (h:Upd fs a w) (o:Obj):Upd fs a (w.alloc o):=h.then_below (bAlloc (Below.refl _ _) o)
theorem Upd.apart {B e sz n c:Nat} {w:World} {A:Option Addr} {css:List (List Value)} (h:Own w B e sz A n c css) {fs:List Nat} (hf:∀ k∈fs,k < B):∀ k∈obl A,k ∉ fs :=
  fun k hk hm=>by have:=(h.lt k (mem_obl.1 hk)).1;have:=hf k hm;omega
theorem bUpd {fs:List Nat} {a w w':World} (h:Below a.heap.size a w) (hu:Upd fs w w') (hf:∀ k∈fs,a.heap.size≤k):Below a.heap.size a w' :=
  h.trans ⟨hu.os,hu.tape,hu.output,hu.size,fun k hk=>hu.block k (Nat.lt_of_lt_of_le hk h.size) (fun hm=>by have:=hf k hm;omega)⟩

structure Fresh (B:Nat) (w:World) (fs:List Nat):Prop where
  nodup:fs.Nodup
  lo:∀ g∈fs,B≤g
  hi:∀ g∈fs,g < w.heap.size
theorem Fresh.grow {B:Nat} {w w':World} {fs:List Nat} (h:Fresh B w fs) (hs:w.heap.size≤w'.heap.size):Fresh B w' fs:=⟨h.nodup,h.lo,fun g hg=>Nat.lt_of_lt_of_le (h.hi g hg) hs⟩
theorem Fresh.rebase {B B':Nat} {w:World} {fs:List Nat} (h:Fresh B w fs) (hb:B'≤B):Fresh B' w fs:=⟨h.nodup,fun g hg=>Nat.le_trans hb (h.lo g hg),h.hi⟩
theorem Fresh.nil (B:Nat) (w:World):Fresh B w []:=⟨List.nodup_nil,by simp,by simp⟩
theorem Fresh.append {B B2:Nat} {w:World} {fs gs:List Nat} (h:Fresh B w fs) (k:Fresh B2 w gs) (hb:B≤B2) (hf:∀ g∈fs,g < B2):Fresh B w (fs++gs) :=
  ⟨List.nodup_append.2 ⟨h.nodup,k.nodup,fun a ha b hb' e=>by subst e;have:=hf a ha;have:=k.lo a hb';omega⟩,
   fun g hg=>by rcases List.mem_append.1 hg with h1 | h1;exact h.lo g h1;exact Nat.le_trans hb (k.lo g h1),
   fun g hg=>by rcases List.mem_append.1 hg with h1 | h1;exact h.hi g h1;exact k.hi g h1⟩
theorem Fresh.then_ {B B2:Nat} {w wF:World} {fs gs:List Nat} (h:Fresh B w fs) (k:Fresh B2 wF gs) (h1:B≤B2) (h2:w.heap.size≤B2) (h3:w.heap.size≤wF.heap.size):Fresh B wF (fs++gs) :=
  (h.grow h3).append k h1 fun g hg=>Nat.lt_of_lt_of_le (h.hi g hg) h2
theorem Fresh.left {B:Nat} {w:World} {fs gs:List Nat} (h:Fresh B w (fs++gs)):Fresh B w fs :=
  ⟨(List.nodup_append.1 h.nodup).1,fun g hg=>h.lo g (List.mem_append.2 (.inl hg)),fun g hg=>h.hi g (List.mem_append.2 (.inl hg))⟩
theorem Fresh.right {B:Nat} {w:World} {fs gs:List Nat} (h:Fresh B w (fs++gs)):Fresh B w gs :=
  ⟨(List.nodup_append.1 h.nodup).2.1,fun g hg=>h.lo g (List.mem_append.2 (.inr hg)),fun g hg=>h.hi g (List.mem_append.2 (.inr hg))⟩
theorem Fresh.apart {B:Nat} {w:World} {fs gs:List Nat} (h:Fresh B w (fs++gs)):∀ k∈fs,k ∉ gs:=fun k hk hk2=>(List.nodup_append.1 h.nodup).2.2 k hk k hk2 rfl
theorem Fresh.obl_ {B e sz n c:Nat} {w:World} {A:Option Addr} {css:List (List Value)} (h:Own w B e sz A n c css):Fresh B w (obl A) :=
  ⟨by unfold obl;cases ob A <;> simp,fun g hg=>(h.lt g (mem_obl.1 hg)).1,fun g hg=>(h.lt g (mem_obl.1 hg)).2⟩
theorem Own.upd {B e sz n c:Nat} {w w':World} {A:Option Addr} {css:List (List Value)} {fs:List Nat} (h:Own w B e sz A n c css) (hu:Upd fs w w') (hd:∀ k∈obl A,k ∉ fs):Own w' B e sz A n c css :=
  h.keep fun g hg=>hu.block g (h.lt g hg).2 (hd g (mem_obl.2 hg))
theorem Own.zero {B e sz n c:Nat} {w:World} {A:Option Addr} {css:List (List Value)} (h:Own w B e sz A n c css):Own w 0 e sz A n c css:=h.rebase (Nat.zero_le _)
theorem Own.from_ {B B' e sz n c:Nat} {w:World} {A:Option Addr} {css:List (List Value)} (h:Own w B e sz A n c css) (hb:∀ g∈obl A,B'≤g):Own w B' e sz A n c css:=by
  refine ⟨⟨h.own.1,?_⟩,h.len,h.each⟩
  rcases h.own.2 with hn | ⟨g,cap,cur,hv,_,r⟩
  · exact .inl hn
  · refine .inr ⟨g,cap,cur,hv,hb g ?_,r⟩
    simp only [Value.slice.injEq] at hv
    rw [hv.1];simp [obl,ob]

theorem gBox {w w':World} {row:Option Nat} (hg:w.grownBy w' row) (b:Nat) (hb:b < w.heap.size) (hne:∀ k,row=some k→k≠b):∀ o,w'.cell? ⟨b,o,none⟩=w.cell? ⟨b,o,none⟩ :=
  fun o=>World.cell?_of_block (a:=⟨b,o,none⟩) (hg.block b hb (fun e=>hne b e.symm rfl))
theorem uBox {fs:List Nat} {w w':World} (hg:Upd fs w w') (b:Nat) (hb:b < w.heap.size) (hne:b ∉ fs):∀ o,w'.cell? ⟨b,o,none⟩=w.cell? ⟨b,o,none⟩ :=
  fun o=>World.cell?_of_block (a:=⟨b,o,none⟩) (hg.block b hb hne)
theorem uBoxF {fs:List Nat} {w w':World} (hg:Upd fs w w') (b:Nat) (hb:b < w.heap.size) (hne:b ∉ fs):∀ o,w'.frozen? ⟨b,o,none⟩=w.frozen? ⟨b,o,none⟩ :=
  fun o=>World.frozen?_of_block (a:=⟨b,o,none⟩) (hg.block b hb hne)
theorem Upd.of_row {A:Option Addr} {a b:World} (h:a.grownBy b (ob A)):Upd (obl A) a b:=Upd.of_grown h fun k hk=>mem_obl.2 hk
theorem Row.new1' (w:World) (t:TypeId) (cs:List Value) (sz a:Nat) (h:a=w.heap.size):Row (w.alloc (.cells cs.toArray t)) (some ⟨a,0,none⟩) 1 sz [cs]:=by subst h;exact Row.new1 w t cs sz
variable {α:Type}
def Each (K:List Nat→List Value→α→Prop):List (List Nat)→List (List Value)→List α→Prop
  | [],[],[]=>True
  | f :: fs,c :: cs,x :: xs=>K f c x∧Each K fs cs xs
  | _,_,_=>False
theorem Each.lens {K:List Nat→List Value→α→Prop}:∀ {fss:List (List Nat)} {css:List (List Value)} {l:List α},Each K fss css l→fss.length=l.length∧css.length=l.length
  | [],[],[],_=>⟨rfl,rfl⟩
  | _ :: _,_ :: _,_ :: _,h=>by have:=Each.lens h.2;simp [this.1,this.2]
theorem Each.at_ {K:List Nat→List Value→α→Prop}:∀ {fss:List (List Nat)} {css:List (List Value)} {l:List α} {i:Nat} {x:α},Each K fss css l→l[i]? = some x→∃ f cs,fss[i]? = some f∧css[i]? = some cs∧K f cs x
  | [],[],[],_,_,_,hx=>by simp at hx
  | f :: _,c :: _,y :: _,0,x,h,hx=>by simp only [List.getElem?_cons_zero,Option.some.injEq] at hx;subst hx;exact ⟨f,c,rfl,rfl,h.1⟩
  | _ :: _,_ :: _,_ :: _,i+1,x,h,hx=>by
    simp only [List.getElem?_cons_succ] at hx
    obtain ⟨f,cs,h1,h2,h3⟩:=Each.at_ h.2 hx
    exact ⟨f,cs,by simpa using h1,by simpa using h2,h3⟩
theorem Each.imp {K K':List Nat→List Value→α→Prop}:∀ {fss:List (List Nat)} {css:List (List Value)} {l:List α},Each K fss css l→(∀ (i:Nat) (f:List Nat) (cs:List Value) (x:α),fss[i]? = some f→css[i]? = some cs→l[i]? = some x→K f cs x→K' f cs x)→Each K' fss css l
  | [],[],[],_,_=>trivial
  | f :: _,c :: _,y :: _,h,hk=>⟨hk 0 f c y rfl rfl rfl h.1,Each.imp h.2 fun i f cs x h1 h2 h3=>hk (i+1) f cs x (by simpa using h1) (by simpa using h2) (by simpa using h3)⟩
theorem Each.append {K:List Nat→List Value→α→Prop}:∀ {fss gss:List (List Nat)} {css dss:List (List Value)} {l m:List α},Each K fss css l→Each K gss dss m→Each K (fss++gss) (css++dss) (l++m)
  | [],_,[],_,[],_,_,h=>h
  | _ :: _,_,_ :: _,_,_ :: _,_,h,k=>⟨h.1,Each.append h.2 k⟩
theorem Each.one {K:List Nat→List Value→α→Prop} {f:List Nat} {cs:List Value} {x:α} (h:K f cs x):Each K [f] [cs] [x]:=⟨h,trivial⟩
theorem Each.replicate {K:List Nat→List Value→α→Prop} {f:List Nat} {cs:List Value} {x:α} (h:K f cs x):∀ n,Each K (List.replicate n f) (List.replicate n cs) (List.replicate n x)
  | 0=>trivial
  | n+1=>⟨h,Each.replicate h n⟩
theorem mem_flat {fss:List (List Nat)} {i:Nat} {f:List Nat} (h:fss[i]? = some f) {k:Nat} (hk:k∈f):k∈fss.flatten:=List.mem_flatten.2 ⟨f,List.mem_of_getElem? h,hk⟩
theorem flat_nodup:∀ {fss:List (List Nat)} {f:List Nat},fss.flatten.Nodup→f∈fss→f.Nodup
  | a :: r,f,hn,hf=>by
    rw [List.flatten_cons] at hn
    rcases List.mem_cons.1 hf with rfl | hf
    · exact (List.nodup_append.1 hn).1
    · exact flat_nodup (List.nodup_append.1 hn).2.1 hf
theorem flat_apart:∀ {fss:List (List Nat)} {i j:Nat} {f g:List Nat},fss.flatten.Nodup→fss[i]? = some f→fss[j]? = some g→i≠j→∀ k∈f,k ∉ g
  | a :: r,0,0,f,g,hn,hi,hj,hne=>absurd rfl hne
  | a :: r,0,j+1,f,g,hn,hi,hj,hne=>fun k hk hg=>by
    simp only [List.getElem?_cons_zero,Option.some.injEq] at hi;subst hi
    simp only [List.getElem?_cons_succ] at hj
    rw [List.flatten_cons] at hn
    exact (List.nodup_append.1 hn).2.2 k hk k (mem_flat hj hg) rfl
  | a :: r,i+1,0,f,g,hn,hi,hj,hne=>fun k hk hg=>by
    simp only [List.getElem?_cons_zero,Option.some.injEq] at hj;subst hj
    simp only [List.getElem?_cons_succ] at hi
    rw [List.flatten_cons] at hn
    exact (List.nodup_append.1 hn).2.2 k hg k (mem_flat hi hk) rfl
  | a :: r,i+1,j+1,f,g,hn,hi,hj,hne=>by
    simp only [List.getElem?_cons_succ] at hi hj
    rw [List.flatten_cons] at hn
    exact flat_apart (List.nodup_append.1 hn).2.1 hi hj (by omega)

structure Loc (K:World→List Nat→List Value→α→Prop):Prop where
  keep:∀ {w w':World} {f:List Nat} {cs:List Value} {x:α},K w f cs x→(∀ k∈f,w'.heap[k]? = w.heap[k]?)→K w' f cs x
  lt:∀ {w:World} {f:List Nat} {cs:List Value} {x:α},K w f cs x→∀ k∈f,k < w.heap.size
def OwSl (K:World→List Nat→List Value→α→Prop) (w:World) (fs:List Nat) (e sz:Nat) (A:Option Addr) (n c:Nat) (l:List α):Prop :=
  ∃ css fss,Own w 0 e sz A n c css∧Each (K w) fss css l∧fs=obl A++fss.flatten
theorem OwSl.len {K:World→List Nat→List Value→α→Prop} {w:World} {fs:List Nat} {e sz n c:Nat} {A:Option Addr} {l:List α} (h:OwSl K w fs e sz A n c l):Hid (l.length=n):=by
  obtain ⟨css,fss,h1,h2,_⟩:=h
  exact (h2.lens.2.symm.trans h1.len)
theorem Each.lt_ {K:World→List Nat→List Value→α→Prop} (hK:Loc K) {w:World} {fss:List (List Nat)} {css:List (List Value)} {l:List α} (h:Each (K w) fss css l):∀ k∈fss.flatten,k < w.heap.size:=by
  intro k hk
  obtain ⟨f,hf,hkf⟩:=List.mem_flatten.1 hk
  obtain ⟨i,hi,rfl⟩:=List.mem_iff_getElem.1 hf
  have hl:=h.lens
  obtain ⟨f',cs,h1,_,h3⟩:=h.at_ (i:=i) (x:=l[i]'(by omega)) (List.getElem?_eq_getElem _)
  rw [List.getElem?_eq_getElem hi] at h1
  obtain rfl:=Option.some.inj h1
  exact hK.lt h3 k hkf
theorem Each.keep_ {K:World→List Nat→List Value→α→Prop} (hK:Loc K) {w w':World} {fss:List (List Nat)} {css:List (List Value)} {l:List α} (h:Each (K w) fss css l) (hw:∀ k∈fss.flatten,w'.heap[k]? = w.heap[k]?):Each (K w') fss css l :=
  h.imp fun i f cs x h1 _ _ hk=>hK.keep hk fun k hkf=>hw k (mem_flat h1 hkf)
theorem OwSl.keep {K:World→List Nat→List Value→α→Prop} (hK:Loc K) {w w':World} {fs:List Nat} {e sz n c:Nat} {A:Option Addr} {l:List α} (h:OwSl K w fs e sz A n c l) (hw:∀ k∈fs,w'.heap[k]? = w.heap[k]?):OwSl K w' fs e sz A n c l:=by
  obtain ⟨css,fss,h1,h2,rfl⟩:=h
  exact ⟨css,fss,h1.keep fun g hg=>hw g (List.mem_append.2 (.inl (mem_obl.2 hg))),h2.keep_ hK fun k hk=>hw k (List.mem_append.2 (.inr hk)),rfl⟩
theorem OwSl.lt {K:World→List Nat→List Value→α→Prop} (hK:Loc K) {w:World} {fs:List Nat} {e sz n c:Nat} {A:Option Addr} {l:List α} (h:OwSl K w fs e sz A n c l):∀ k∈fs,k < w.heap.size:=by
  obtain ⟨css,fss,h1,h2,rfl⟩:=h
  intro k hk
  rcases List.mem_append.1 hk with hk | hk
  · exact (h1.lt k (mem_obl.1 hk)).2
  · exact h2.lt_ hK k hk
theorem OwSl.below {K:World→List Nat→List Value→α→Prop} (hK:Loc K) {w w':World} {fs:List Nat} {e sz n c:Nat} {A:Option Addr} {l:List α} (h:OwSl K w fs e sz A n c l) (hb:Below w.heap.size w w'):OwSl K w' fs e sz A n c l :=
  h.keep hK fun k hk=>hb.block k (h.lt hK k hk)
theorem OwSl.upd {K:World→List Nat→List Value→α→Prop} (hK:Loc K) {w w':World} {fs gs:List Nat} {e sz n c:Nat} {A:Option Addr} {l:List α} (h:OwSl K w fs e sz A n c l) (hu:Upd gs w w') (hd:∀ k∈fs,k ∉ gs):OwSl K w' fs e sz A n c l :=
  h.keep hK fun k hk=>hu.block k (h.lt hK k hk) (hd k hk)
def RdSl (R:World→List Value→α→Prop) (w:World) (A:Option Addr) (n sz:Nat) (l:List α):Prop :=
  ∃ css fss,Row w A n sz css∧Each (fun _ cs x=>R w cs x) fss css l
theorem RdSl.len {R:World→List Value→α→Prop} {w:World} {A:Option Addr} {n sz:Nat} {l:List α} (h:RdSl R w A n sz l):Hid (l.length=n):=by
  obtain ⟨css,fss,h1,h2⟩:=h
  exact (h2.lens.2.symm.trans h1.1)
theorem RdSl.below {R:World→List Value→α→Prop} (hR:∀ {w w':World} {cs:List Value} {x:α},R w cs x→Below w.heap.size w w'→R w' cs x) {w w':World} {A:Option Addr} {n sz:Nat} {l:List α} (h:RdSl R w A n sz l) (hb:Below w.heap.size w w'):RdSl R w' A n sz l:=by
  obtain ⟨css,fss,h1,h2⟩:=h
  exact ⟨css,fss,h1.below hb,h2.imp fun i f cs x _ _ _ hk=>hR hk hb⟩
theorem RdSl.at_ {R:World→List Value→α→Prop} {w:World} {A:Option Addr} {n sz:Nat} {l:List α} (h:RdSl R w A n sz l) {k:Nat} (hk:k < n) :
    ∃ (x:α) (cs:List Value) (g off:Nat),Hid (l[k]? = some x)∧A=some ⟨g,off,none⟩∧R w cs x∧∀ j v,cs[j]? = some v→w.cell? ⟨g,off+k * sz+j,none⟩=some v:=by
  have hl:l.length=n:=h.len
  obtain ⟨css,fss,h1,h2⟩:=h
  obtain ⟨f,cs,_,h4,h5⟩:=h2.at_ (i:=k) (x:=l[k]'(by omega)) (List.getElem?_eq_getElem _)
  obtain ⟨g,off,hA,hc⟩:=h1.2 k cs h4
  exact ⟨l[k]'(by omega),cs,g,off,by simp [Hid],hA,h5,hc⟩
theorem OwSl.rd {K:World→List Nat→List Value→α→Prop} {R:World→List Value→α→Prop} (hKR:∀ {w:World} {f:List Nat} {cs:List Value} {x:α},K w f cs x→R w cs x) {w:World} {fs:List Nat} {e sz n c:Nat} {A:Option Addr} {l:List α} (h:OwSl K w fs e sz A n c l):RdSl R w A n sz l:=by
  obtain ⟨css,fss,h1,h2,_⟩:=h
  exact ⟨css,fss,h1.row,h2.imp fun i f cs x _ _ _ hk=>hKR hk⟩
theorem Each.put {K K':List Nat→List Value→α→Prop}:∀ {fss:List (List Nat)} {css:List (List Value)} {l:List α} {i:Nat} {f:List Nat} {cs':List Value} {x':α},Each K fss css l→fss[i]? = some f→K' f cs' x' →
    (∀ (j:Nat) (f2:List Nat) (cs2:List Value) (x2:α),j≠i→fss[j]? = some f2→css[j]? = some cs2→l[j]? = some x2→K f2 cs2 x2→K' f2 cs2 x2)→Each K' fss (css.set i cs') (l.set i x')
  | a :: r,c :: cr,y :: lr,0,f,cs',x',he,hf,hk',hall=>by
    simp only [List.getElem?_cons_zero,Option.some.injEq] at hf
    subst hf
    exact ⟨hk',he.2.imp fun j f2 cs2 x2 h1 h2 h3 h4=>hall (j+1) f2 cs2 x2 (by omega) (by simpa using h1) (by simpa using h2) (by simpa using h3) h4⟩
  | a :: r,c :: cr,y :: lr,i+1,f,cs',x',he,hf,hk',hall =>
    ⟨hall 0 a c y (by omega) rfl rfl rfl he.1,Each.put he.2 (by simpa using hf) hk' fun j f2 cs2 x2 hne h1 h2 h3 h4=>hall (j+1) f2 cs2 x2 (by omega) (by simpa using h1) (by simpa using h2) (by simpa using h3) h4⟩
theorem OwSl.focus {K:World→List Nat→List Value→α→Prop} (hK:Loc K) {w:World} {fs:List Nat} {e sz n c:Nat} {A:Option Addr} {l:List α} (h:OwSl K w fs e sz A n c l) (hn:fs.Nodup) {i:Nat} {x:α} (hx:l[i]? = some x) :
    ∃ css f cs g,Own w 0 e sz A n c css∧css[i]? = some cs∧K w f cs x∧A=some ⟨g,0,none⟩∧g ∉ f∧g∈fs∧(∀ k∈f,k∈fs)∧f.Nodup ∧
      (∀ w' cs' x',Own w' 0 e sz A n c (css.set i cs')→K w' f cs' x'→Upd (g :: f) w w'→OwSl K w' fs e sz A n c (l.set i x')):=by
  obtain ⟨css,fss,h1,h2,rfl⟩:=h
  obtain ⟨f,cs,hf,hcs,hk⟩:=h2.at_ hx
  obtain ⟨hno,hnf,hna⟩:=List.nodup_append.1 hn
  rcases h1.cases with ⟨_,_,_,rfl⟩ | ⟨g,rfl,_,hgl,_⟩
  · simp at hcs
  · have hgo:g∈obl (some ⟨g,0,none⟩):=by simp [obl,ob]
    have hgf:g ∉ fss.flatten:=fun hm=>hna g hgo g hm rfl
    refine ⟨css,f,cs,g,h1,hcs,hk,rfl,fun hm=>hgf (mem_flat hf hm),List.mem_append.2 (.inl hgo),fun k hk=>List.mem_append.2 (.inr (mem_flat hf hk)),?_,fun w' cs' x' ho hk' hu=>?_⟩
    · exact flat_nodup hnf (List.mem_of_getElem? hf)
    · refine ⟨css.set i cs',fss,ho,h2.put hf hk' fun j f2 cs2 x2 hne h3 _ _ hk2=>?_,rfl⟩
      refine hK.keep hk2 fun k hkf=>hu.block k (hK.lt hk2 k hkf) ?_
      simp only [List.mem_cons,not_or]
      exact ⟨fun e=>hgf (by rw [← e];exact mem_flat h3 hkf),flat_apart hnf h3 hf hne k hkf⟩
theorem OwSl.nil_ {K:World→List Nat→List Value→α→Prop} (w:World) (e sz:Nat):OwSl K w [] e sz none 0 0 []:=⟨[],[],Own.nil_ _ _ _ _,trivial,rfl⟩
end Go.Proofs.YtdfemnffpaopfaaGreatDoor

