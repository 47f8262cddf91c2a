/- Texts of this proof, one behind the other: Team, RemS, TakeF. -/
import Derived.Test.YtdfemnffpaopfaaGreatDoorGrs8
import Derived.Test.YtdfemnffpaopfaaGreatDoorGrs12
import Derived.Test.YtdfemnffpaopfaaGreatDoorGrs17
namespace Go.Proofs.YtdfemnffpaopfaaGreatDoor
open Go.RowKit
set_option linter.unusedVariables false
set_option linter.unusedSimpArgs false
set_option maxHeartbeats 4000000
set_option maxRecDepth 100000
theorem info_RobotS:(Tryz.prog.info? 47).map (fun i=>(i.zero,i.size,i.bytes))=some (some (.agg #[.slice none 0 0,.string ByteArray.empty]),2,40):=by kernel_rfl
def zeroRobotS:List Value:=[.slice none 0 0,.string ByteArray.empty]
theorem info_ChannelS:(Tryz.prog.info? 84).map (fun i=>(i.zero,i.size,i.bytes))=some (some (.agg #[.slice none 0 0,.int .i64 0,.int .i64 0,.slice none 0 0,.slice none 0 0,.slice none 0 0]),6,112):=by kernel_rfl
def zeroChannelS:List Value:=[.slice none 0 0,.int .i64 0,.int .i64 0,.slice none 0 0,.slice none 0 0,.slice none 0 0]
theorem info_ChannelSS:(Tryz.prog.info? 71).map (fun i=>(i.zero,i.size,i.bytes))=some (some (.slice none 0 0),1,24):=by kernel_rfl

theorem spec_TakeInbox_f (v:CV) (c:Chan) (w:World) (hfw:fewC c) (hr:RdC w v c) :
    Calls Tryz.prog 125 #[vChan v c.base c.expected] w fun e w'=>TakePost w c e w':=by
  go_enter Tryz.func125,Tryz.ntmps125
  go_wp2_with fail
  refine Calls.mono (l29Copy_k v c _ hfw ?_) ?_
  · exact hr.below (bAlloc (bAlloc (Below.refl _ _) _) _)
  rintro e w1 ⟨v1,rfl,ho,hf,hb1⟩
  have H:=bTrans (bAlloc (bAlloc (Below.refl w.heap.size w) _) _) hb1
  have hz1:w.heap.size+2≤w1.heap.size:=bsz2 hb1
  have q0:w.heap.size < w1.heap.size:=by omega
  have q1:w.heap.size+1 < w1.heap.size:=by omega
  have kb10:=bBox hb1 (w.heap.size) (by first | (simp;done) | (simp;omega))
  have fb10:=bBoxF hb1 (w.heap.size) (by first | (simp;done) | (simp;omega))
  have kb11:=bBox hb1 (w.heap.size+1) (by first | (simp;done) | (simp;omega))
  have fb11:=bBoxF hb1 (w.heap.size+1) (by first | (simp;done) | (simp;omega))
  have hf':Fresh (w.heap.size+2) w1 (fpC v1):=hf.rebase (by simp)
  go_wp2_with fail
  refine bodyPost_ret (v:=.tuple #[vChan { v1 with i:=nilSv } (takeC c).base (takeC c).expected,.slice v1.i.A v1.i.n v1.i.c]) (by simp [*,takeC,nilSv,results,Tryz.results125,go_sem]) rfl ⟨_,_,rfl,?_⟩
  exact take_end [w.heap.size,w.heap.size+1,w1.heap.size] H ho hf' (by omega) (by repeat (first | with_reducible exact Upd.refl _ _ | with_reducible refine Upd.alloc_ ?_ _ | ((with_reducible refine Upd.set_in ?_ ?_ _);rotate_left;simp))) (by simp;omega)
theorem impl_TakeInbox_f (v:CV) (c:Chan) (w:World) (hfw:fewC c) (hr:RdC w v c) :
    Calls Tryz.prog 90 #[vChan v c.base c.expected] w fun e w'=>TakePost w c e w':=by
  go_enter Tryz.func90,Tryz.ntmps90
  go_wp2_with fail
  refine Calls.mono (copyChannel_k v c _ hfw ?_) ?_
  · exact hr.below (bAlloc (bAlloc (Below.refl _ _) _) _)
  rintro e w1 ⟨v1,rfl,ho,hf,hb1⟩
  have H:=bTrans (bAlloc (bAlloc (Below.refl w.heap.size w) _) _) hb1
  have hz1:w.heap.size+2≤w1.heap.size:=bsz2 hb1
  have q0:w.heap.size < w1.heap.size:=by omega
  have q1:w.heap.size+1 < w1.heap.size:=by omega
  have kb10:=bBox hb1 (w.heap.size) (by first | (simp;done) | (simp;omega))
  have fb10:=bBoxF hb1 (w.heap.size) (by first | (simp;done) | (simp;omega))
  have kb11:=bBox hb1 (w.heap.size+1) (by first | (simp;done) | (simp;omega))
  have fb11:=bBoxF hb1 (w.heap.size+1) (by first | (simp;done) | (simp;omega))
  have hf':Fresh (w.heap.size+2) w1 (fpC v1):=hf.rebase (by simp)
  have hbx:=Own.box (sz:=6) ((hb1.block w.heap.size (by simp;omega)).trans (box2 w _ _)) rfl
  have tok:True:=trivial
  go_wp2_with (have _t:=tok;refine wpList_store_elem rfl 84 (.tmp 1) (.tmp 6) rfl 0 84 6 1 1 w.heap.size 0 0 rfl _ rfl _ (cChan v1 c.base c.expected) rfl rfl rfl (one_of rfl) sz_Chan hbx (by omega) ?_;clear tok _t hbx;intro w2 hbx hg2;have u2:=upd1 hg2;have hz2:=hg2.size;have q2:w.heap.size+1 < w2.heap.size:=(by omega);have c0:=hbx.bcell 0 _ rfl;have c1:=hbx.bcell 1 _ rfl;have c2:=hbx.bcell 2 _ rfl;have c3:=hbx.bcell 3 _ rfl;have c4:=hbx.bcell 4 _ rfl;have c5:=hbx.bcell 5 _ rfl;have fz:=hbx.frozen rfl;have kb20:=uBox u2 (w.heap.size+1) (by omega) (by simp);have fb20:=uBoxF u2 (w.heap.size+1) (by omega) (by simp))
  refine bodyPost_ret (v:=.tuple #[vChan { v1 with i:=nilSv } (takeC c).base (takeC c).expected,.slice v1.i.A v1.i.n v1.i.c]) (by simp [*,takeC,nilSv,results,Tryz.results90,go_sem]) rfl ⟨_,_,rfl,?_⟩
  exact take_end [w.heap.size,w.heap.size+1] H ho hf' (by omega) ((u2.mono (by simp)).trans (by repeat (first | with_reducible exact Upd.refl _ _ | with_reducible refine Upd.alloc_ ?_ _ | ((with_reducible refine Upd.set_in ?_ ?_ _);rotate_left;simp)))) (by simp)
end Go.Proofs.YtdfemnffpaopfaaGreatDoor
