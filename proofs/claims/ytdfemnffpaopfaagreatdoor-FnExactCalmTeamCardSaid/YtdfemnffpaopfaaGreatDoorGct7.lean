/- Texts of this proof, one behind the other: Mark2. -/
import Derived.Test.YtdfemnffpaopfaaGreatDoorGct3
namespace Go.Proofs.YtdfemnffpaopfaaGreatDoor
open Go.RowKit
set_option linter.unusedVariables false
set_option linter.unusedSimpArgs false
set_option maxHeartbeats 1600000
set_option maxRecDepth 100000
theorem sz_bool:(Tryz.prog.info? 4).map (·.size)=some 1:=by kernel_rfl
def mkCPacket (k:Int):List Value:=[.bool (k % 3 == 0),.int .i64 (k+1),.string (markTxt (k+2)),.int .i64 (k+3)]
def markPacket (k0:Int) (i:Nat):List Value:=mkCPacket (k0+4 * (i:Int))
set_option maxRecDepth 100000 in
theorem markPacketS_c (A:Option Addr) (n c B:Nat) (css:List (List Value)) (k0:Int) (w:World) (hn:n≤4194304) (hk0:0≤k0) (hk1:k0≤100000000000) (ho:Own w B 164 4 A n c css) :
    Calls Tryz.prog 158 #[.slice A n c,.int .i64 k0] w fun e w'=>e=rInt (k0+4 * n)∧Own w' B 164 4 A n c ((List.range n).map (markPacket k0))∧w.grownBy w' (ob A):=by
  have hlc:=Lib.hid ho.len
  go_enter Tryz.func158,Tryz.ntmps158
  go_wp2
  go_loopw [1,5] (fun q i wr=>∃ (k:Nat),k≤n∧i=.int .i64 k∧q=.int .i64 (k0+4 * k)∧Own wr B 164 4 A n c (Mrk (markPacket k0) css k)∧w.grownBy wr (ob A)) (fun _ i _=>n - (intOf i).toNat)
  case atStart=>exact ⟨0,by omega,rfl,by go_num,by rw [Mrk.zero];exact ho,World.grownBy.refl _ _⟩
  case round =>
    obtain ⟨k,hk,rfl,rfl,hown,hgr⟩:=hrel
    by_cases hlt:k < n
    · rcases hown.cases with ⟨_,h0,_⟩ | ⟨g,rfl,hgB,hgl,hnc,hcm⟩
      · omega
      clear ho
      obtain ⟨cs,hcs⟩:=Mrk.get_ (mk:=markPacket k0) hlc.out hlt
      obtain ⟨v0,v1,v2,v3,rfl⟩:=vlen4 (hown.each cs (List.mem_of_getElem? hcs))
      have tok0:True:=trivial
      go_wp2_with (first
        | (go_at_call 115;refine (markText_c _ _ (MI.of (by omega))).mono ?_;rintro e w2 ⟨rfl,hb2⟩;have hown2:=hown.below hb2;have hgr2:=gBelow hgr hb2;clear hown hgr hb2;have hown:=hown2;have hgr:=hgr2;clear hown2 hgr2)
        | (have _t:=tok0;refine wpList_store_cell rfl _ _ _ rfl B 164 4 n c g k 0 _ (by omega) (by omega) _ _ rfl (.bool ((k0+4 * (k:Int)) % 3 == 0)) rfl rfl rfl (by first | exact sz_int | exact sz_str | exact sz_bool) hown hcs ?_;clear hown hcs;intro w1 hown hcs hg1;have hgr2:=gTrans hgr hg1;clear hgr hg1;have hgr:=hgr2;clear hgr2 tok0 _t;have tok1:True:=trivial)
        | (have _t:=tok1;refine wpList_store_cell rfl _ _ _ rfl B 164 4 n c g k 1 _ (by omega) (by omega) _ _ rfl (.int .i64 (k0+4 * (k:Int)+1)) rfl rfl rfl (by first | exact sz_int | exact sz_str | exact sz_bool) hown hcs ?_;clear hown hcs;intro w1 hown hcs hg1;have hgr2:=gTrans hgr hg1;clear hgr hg1;have hgr:=hgr2;clear hgr2 tok1 _t;have tok2:True:=trivial)
        | (have _t:=tok2;refine wpList_store_cell rfl _ _ _ rfl B 164 4 n c g k 2 _ (by omega) (by omega) _ _ rfl (.string (markTxt (k0+4 * (k:Int)+1+1))) rfl rfl rfl (by first | exact sz_int | exact sz_str | exact sz_bool) hown hcs ?_;clear hown hcs;intro w1 hown hcs hg1;have hgr2:=gTrans hgr hg1;clear hgr hg1;have hgr:=hgr2;clear hgr2 tok2 _t;have tok3:True:=trivial)
        | (have _t:=tok3;refine wpList_store_cell rfl _ _ _ rfl B 164 4 n c g k 3 _ (by omega) (by omega) _ _ rfl (.int .i64 (k0+4 * (k:Int)+1+1+1)) rfl rfl rfl (by first | exact sz_int | exact sz_str | exact sz_bool) hown hcs ?_;clear hown hcs;intro w1 hown hcs hg1;have hgr2:=gTrans hgr hg1;clear hgr hg1;have hgr:=hgr2;clear hgr2 tok3 _t;have tok4:True:=trivial))
      simp only [List.set_set,List.set_cons_zero,List.set_cons_succ] at hown
      rw [Mrk.next hlc.out hlt (by simp [markPacket,mkCPacket,Int.add_assoc])] at hown
      go_roundw
      case rel=>exact ⟨k+1,by omega,by go_num,by first | go_num | (congr 1;omega),hown,hgr⟩
      case measure=>simp [intOf];omega
    · rw [Mrk.end_ hlc.out hlt hk] at hown
      go_wp2
      go_ret
      exact ⟨by rw [show k=n by omega];rfl,hown,hgr⟩

set_option maxRecDepth 100000 in
theorem heldPacketS_c (A:Option Addr) (n c:Nat) (k0:Int) (w:World) (hn:n≤4194304) (hk0:0≤k0) (hk1:k0≤100000000000) (hr:Row w A n 4 ((List.range n).map (markPacket k0))) :
    Calls Tryz.prog 160 #[.slice A n c,.int .i64 k0] w fun e w'=>e=rInt (k0+4 * n)∧Below w.heap.size w w':=by
  go_enter Tryz.func160,Tryz.ntmps160
  go_wp2
  go_loopw [1,5] (fun q i wr=>∃ (k:Nat),k≤n∧i=.int .i64 k∧q=.int .i64 (k0+4 * k)∧Below w.heap.size w wr) (fun _ i _=>n - (intOf i).toNat)
  case atStart=>exact ⟨0,by omega,rfl,by go_num,Below.refl _ _⟩
  case round =>
    obtain ⟨k,hk,rfl,rfl,hb⟩:=hrel
    by_cases hlt:k < n
    · obtain ⟨i,g,off,hi,rfl,hc⟩:=Row.at_ (hr.below hb) hlt
      obtain rfl:k=i:=by have:=hi.out;simp [hlt] at this;omega
      have g0:wr.cell? ⟨g,off+k * 4,none⟩=some (.bool ((k0+4 * (k:Int)) % 3 == 0)):=by have:=hc 0 _ rfl;simpa [Int.add_assoc] using this
      have g1:wr.cell? ⟨g,off+k * 4+1,none⟩=some (.int .i64 (k0+4 * (k:Int)+1)):=by have:=hc 1 _ rfl;simpa [Int.add_assoc] using this
      have g2:wr.cell? ⟨g,off+k * 4+2,none⟩=some (.string (markTxt (k0+4 * (k:Int)+1+1))):=by have:=hc 2 _ rfl;simpa [Int.add_assoc] using this
      have g3:wr.cell? ⟨g,off+k * 4+3,none⟩=some (.int .i64 (k0+4 * (k:Int)+1+1+1)):=by have:=hc 3 _ rfl;simpa [Int.add_assoc] using this
      clear hc hr
      have z0:(0:Int)≤(k:Int):=by omega
      have z1:(k:Int) < (n:Int):=by omega
      go_wp2_with fail
      go_region_held3 (fun w'=>w'.cell? ⟨g,off+k * 4+2,none⟩=some (.string (markTxt (k0+4 * (k:Int)+1+1)))∧w'.cell? ⟨g,off+k * 4+3,none⟩=some (.int .i64 (k0+4 * (k:Int)+1+1+1))) (first | go_keep | ((repeat' apply And.intro) <;> exact bCell hb1 (by assumption))) ((go_at_call 115;refine (markText_c _ _ (MI.of (by omega))).mono ?_;rintro e w1 ⟨rfl,hb1⟩))
      have g3:w1.cell? ⟨g,off+k * 4+3,none⟩=some (.int .i64 (k0+4 * (k:Int)+1+1+1)):=bCell hb1 g3
      have hb:=bTrans (bDrew hb) hb1
      go_wp2_with fail
      go_roundw
      case rel=>exact ⟨k+1,by omega,by go_num,by first | go_num | (congr 1;omega),hb⟩
      case measure=>simp [intOf];omega
    · go_wp2
      go_ret
      exact ⟨by rw [show k=n by omega];rfl,hb⟩







end Go.Proofs.YtdfemnffpaopfaaGreatDoor
