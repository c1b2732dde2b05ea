/- Lemmas and walks for the claim: Ds, Dt. -/
import Derived.Test.YtpmlljbebdidgaaGreatDoorA0
import Derived.Test.YtpmlljbebdidgaaGreatDoorA18
set_option maxRecDepth 100000
set_option maxHeartbeats 1000000
namespace Go.Proofs.YtpmlljbebdidgaaGreatDoor
open Go.RowKit Go.ChangeShapes
def MakeOut(w:World)(I O:List Int)(Ai:Option Addr)(ci:Nat)(Ao:Option Addr)(co:Nat)(e:Ending)(w':World):Prop:=
 ∃(κ:KdV) (bk:Nat),e= .returned (.iface κ.pt (.pointer (some ⟨bk,0,none⟩)))∧KdM w' bk κ I O Ai ci Ao co 0∧Below w.heap.size w w'∧w.heap.size≤bk∧∀q,κ.fix q→w.heap.size≤q
theorem make_up(I O:List Int)(Ai:Option Addr)(ci:Nat)(Ao:Option Addr)(co:Nat)(pv:Value)(w:World)(ri:Rd w w.heap.size Ai (cellsI I))(ro:Rd w w.heap.size Ao (cellsI O))(ai:∀q,blkOf Ai=some q→q<w.heap.size)(ao:∀q,blkOf Ao=some q→q<w.heap.size)(hrt:KdV.rates .up I O):
  Calls Tryz.prog 83 #[.int .u8 2, .agg #[.slice Ai I.length ci, .slice Ao O.length co, .int .i64 0],pv] w (MakeOut w I O Ai ci Ao co):=by
 have b1:=bA_ w (.cells #[.slice Ai I.length ci, .slice Ao O.length co, .int .i64 0] 185);have k1:=bN_ b1;have z1:(w.alloc (.cells #[.slice Ai I.length ci, .slice Ao O.length co, .int .i64 0] 185)).heap.size=w.heap.size+1:=by simp
 have b2:=(Below.refl _ (w.alloc (.cells #[.slice Ai I.length ci, .slice Ao O.length co, .int .i64 0] 185))).alloc lR_ (.cells #[.slice Ai I.length ci, .slice Ao O.length co, .int .i64 0] 205);have k2:=Blk.new (w.alloc (.cells #[.slice Ai I.length ci, .slice Ao O.length co, .int .i64 0] 185)) _ rfl 205 #[.slice Ai I.length ci, .slice Ao O.length co, .int .i64 0];have c0:=k1.cellL 0 rfl;have c1:=k1.cellL 1 rfl;have c2:=k1.cellL 2 rfl;have b12:=b1.trans (b2.mono (by omega))
 have K:KdM ((w.alloc (.cells #[.slice Ai I.length ci, .slice Ao O.length co, .int .i64 0] 185)).alloc (.cells #[.slice Ai I.length ci, .slice Ao O.length co, .int .i64 0] 205)) (w.heap.size+1) .up I O Ai ci Ao co 0:=by
  rw[z1]at k2;refine⟨k2,(ri.below b12 lR_).more b12.size,(ro.below b12 lR_).more b12.size,hrt,trivial,fun q hq=>?_⟩
  rcases hq with hq|hq|hq
  ·have:=ai q hq;omega
  ·have:=ao q hq;omega
  ·exact hq.elim
 have HK:=Lh K;have HB:=Lh b12;generalize I.length=li at*;generalize O.length=lo at*;clear b1 k1 b2 k2 b12 K z1
 go_enter Tryz.func83, Tryz.ntmps83
 go_wp2_with fail
 go_ret;exact⟨.up,w.heap.size+1,rfl,HK.out,HB.out,by omega,fun q hq=>hq.elim⟩
theorem make_down(I O:List Int)(Ai:Option Addr)(ci:Nat)(Ao:Option Addr)(co:Nat)(pv:Value)(w:World)(ri:Rd w w.heap.size Ai (cellsI I))(ro:Rd w w.heap.size Ao (cellsI O))(ai:∀q,blkOf Ai=some q→q<w.heap.size)(ao:∀q,blkOf Ao=some q→q<w.heap.size)(hrt:KdV.rates .down I O):
  Calls Tryz.prog 83 #[.int .u8 3, .agg #[.slice Ai I.length ci, .slice Ao O.length co, .int .i64 0],pv] w (MakeOut w I O Ai ci Ao co):=by
 have b1:=bA_ w (.cells #[.slice Ai I.length ci, .slice Ao O.length co, .int .i64 0] 185);have k1:=bN_ b1;have z1:(w.alloc (.cells #[.slice Ai I.length ci, .slice Ao O.length co, .int .i64 0] 185)).heap.size=w.heap.size+1:=by simp
 have b2:=(Below.refl _ (w.alloc (.cells #[.slice Ai I.length ci, .slice Ao O.length co, .int .i64 0] 185))).alloc lR_ (.cells #[.slice Ai I.length ci, .slice Ao O.length co, .int .i64 0] 207);have k2:=Blk.new (w.alloc (.cells #[.slice Ai I.length ci, .slice Ao O.length co, .int .i64 0] 185)) _ rfl 207 #[.slice Ai I.length ci, .slice Ao O.length co, .int .i64 0];have c0:=k1.cellL 0 rfl;have c1:=k1.cellL 1 rfl;have c2:=k1.cellL 2 rfl;have b12:=b1.trans (b2.mono (by omega))
 have K:KdM ((w.alloc (.cells #[.slice Ai I.length ci, .slice Ao O.length co, .int .i64 0] 185)).alloc (.cells #[.slice Ai I.length ci, .slice Ao O.length co, .int .i64 0] 207)) (w.heap.size+1) .down I O Ai ci Ao co 0:=by
  rw[z1]at k2;refine⟨k2,(ri.below b12 lR_).more b12.size,(ro.below b12 lR_).more b12.size,hrt,trivial,fun q hq=>?_⟩
  rcases hq with hq|hq|hq
  ·have:=ai q hq;omega
  ·have:=ao q hq;omega
  ·exact hq.elim
 have HK:=Lh K;have HB:=Lh b12;generalize I.length=li at*;generalize O.length=lo at*;clear b1 k1 b2 k2 b12 K z1
 go_enter Tryz.func83, Tryz.ntmps83
 go_wp2_with fail
 go_ret;exact⟨.down,w.heap.size+1,rfl,HK.out,HB.out,by omega,fun q hq=>hq.elim⟩
theorem make_weave(I O:List Int)(Ai:Option Addr)(ci:Nat)(Ao:Option Addr)(co:Nat)(pv:Value)(w:World)(ri:Rd w w.heap.size Ai (cellsI I))(ro:Rd w w.heap.size Ao (cellsI O))(ai:∀q,blkOf Ai=some q→q<w.heap.size)(ao:∀q,blkOf Ao=some q→q<w.heap.size)(hrt:KdV.rates .weave I O):
  Calls Tryz.prog 83 #[.int .u8 4, .agg #[.slice Ai I.length ci, .slice Ao O.length co, .int .i64 0],pv] w (MakeOut w I O Ai ci Ao co):=by
 have b1:=bA_ w (.cells #[.slice Ai I.length ci, .slice Ao O.length co, .int .i64 0] 185);have k1:=bN_ b1;have z1:(w.alloc (.cells #[.slice Ai I.length ci, .slice Ao O.length co, .int .i64 0] 185)).heap.size=w.heap.size+1:=by simp
 have b2:=(Below.refl _ (w.alloc (.cells #[.slice Ai I.length ci, .slice Ao O.length co, .int .i64 0] 185))).alloc lR_ (.cells #[.slice Ai I.length ci, .slice Ao O.length co, .int .i64 0] 209);have k2:=Blk.new (w.alloc (.cells #[.slice Ai I.length ci, .slice Ao O.length co, .int .i64 0] 185)) _ rfl 209 #[.slice Ai I.length ci, .slice Ao O.length co, .int .i64 0];have c0:=k1.cellL 0 rfl;have c1:=k1.cellL 1 rfl;have c2:=k1.cellL 2 rfl;have b12:=b1.trans (b2.mono (by omega))
 have K:KdM ((w.alloc (.cells #[.slice Ai I.length ci, .slice Ao O.length co, .int .i64 0] 185)).alloc (.cells #[.slice Ai I.length ci, .slice Ao O.length co, .int .i64 0] 209)) (w.heap.size+1) .weave I O Ai ci Ao co 0:=by
  rw[z1]at k2;refine⟨k2,(ri.below b12 lR_).more b12.size,(ro.below b12 lR_).more b12.size,hrt,trivial,fun q hq=>?_⟩
  rcases hq with hq|hq|hq
  ·have:=ai q hq;omega
  ·have:=ao q hq;omega
  ·exact hq.elim
 have HK:=Lh K;have HB:=Lh b12;generalize I.length=li at*;generalize O.length=lo at*;clear b1 k1 b2 k2 b12 K z1
 go_enter Tryz.func83, Tryz.ntmps83
 go_wp2_with fail
 go_ret;exact⟨.weave,w.heap.size+1,rfl,HK.out,HB.out,by omega,fun q hq=>hq.elim⟩
theorem make_unweave(I O:List Int)(Ai:Option Addr)(ci:Nat)(Ao:Option Addr)(co:Nat)(pv:Value)(w:World)(ri:Rd w w.heap.size Ai (cellsI I))(ro:Rd w w.heap.size Ao (cellsI O))(ai:∀q,blkOf Ai=some q→q<w.heap.size)(ao:∀q,blkOf Ao=some q→q<w.heap.size)(hrt:KdV.rates .unweave I O):
  Calls Tryz.prog 83 #[.int .u8 5, .agg #[.slice Ai I.length ci, .slice Ao O.length co, .int .i64 0],pv] w (MakeOut w I O Ai ci Ao co):=by
 have b1:=bA_ w (.cells #[.slice Ai I.length ci, .slice Ao O.length co, .int .i64 0] 185);have k1:=bN_ b1;have z1:(w.alloc (.cells #[.slice Ai I.length ci, .slice Ao O.length co, .int .i64 0] 185)).heap.size=w.heap.size+1:=by simp
 have b2:=(Below.refl _ (w.alloc (.cells #[.slice Ai I.length ci, .slice Ao O.length co, .int .i64 0] 185))).alloc lR_ (.cells #[.slice Ai I.length ci, .slice Ao O.length co, .int .i64 0] 211);have k2:=Blk.new (w.alloc (.cells #[.slice Ai I.length ci, .slice Ao O.length co, .int .i64 0] 185)) _ rfl 211 #[.slice Ai I.length ci, .slice Ao O.length co, .int .i64 0];have c0:=k1.cellL 0 rfl;have c1:=k1.cellL 1 rfl;have c2:=k1.cellL 2 rfl;have b12:=b1.trans (b2.mono (by omega))
 have K:KdM ((w.alloc (.cells #[.slice Ai I.length ci, .slice Ao O.length co, .int .i64 0] 185)).alloc (.cells #[.slice Ai I.length ci, .slice Ao O.length co, .int .i64 0] 211)) (w.heap.size+1) .unweave I O Ai ci Ao co 0:=by
  rw[z1]at k2;refine⟨k2,(ri.below b12 lR_).more b12.size,(ro.below b12 lR_).more b12.size,hrt,trivial,fun q hq=>?_⟩
  rcases hq with hq|hq|hq
  ·have:=ai q hq;omega
  ·have:=ao q hq;omega
  ·exact hq.elim
 have HK:=Lh K;have HB:=Lh b12;generalize I.length=li at*;generalize O.length=lo at*;clear b1 k1 b2 k2 b12 K z1
 go_enter Tryz.func83, Tryz.ntmps83
 go_wp2_with fail
 go_ret;exact⟨.unweave,w.heap.size+1,rfl,HK.out,HB.out,by omega,fun q hq=>hq.elim⟩
theorem make_add(I O:List Int)(Ai:Option Addr)(ci:Nat)(Ao:Option Addr)(co:Nat)(pv:Value)(w:World)(ri:Rd w w.heap.size Ai (cellsI I))(ro:Rd w w.heap.size Ao (cellsI O))(ai:∀q,blkOf Ai=some q→q<w.heap.size)(ao:∀q,blkOf Ao=some q→q<w.heap.size)(hrt:KdV.rates .add I O):
  Calls Tryz.prog 83 #[.int .u8 6, .agg #[.slice Ai I.length ci, .slice Ao O.length co, .int .i64 0],pv] w (MakeOut w I O Ai ci Ao co):=by
 have b1:=bA_ w (.cells #[.slice Ai I.length ci, .slice Ao O.length co, .int .i64 0] 185);have k1:=bN_ b1;have z1:(w.alloc (.cells #[.slice Ai I.length ci, .slice Ao O.length co, .int .i64 0] 185)).heap.size=w.heap.size+1:=by simp
 have b2:=(Below.refl _ (w.alloc (.cells #[.slice Ai I.length ci, .slice Ao O.length co, .int .i64 0] 185))).alloc lR_ (.cells #[.slice Ai I.length ci, .slice Ao O.length co, .int .i64 0] 213);have k2:=Blk.new (w.alloc (.cells #[.slice Ai I.length ci, .slice Ao O.length co, .int .i64 0] 185)) _ rfl 213 #[.slice Ai I.length ci, .slice Ao O.length co, .int .i64 0];have c0:=k1.cellL 0 rfl;have c1:=k1.cellL 1 rfl;have c2:=k1.cellL 2 rfl;have b12:=b1.trans (b2.mono (by omega))
 have K:KdM ((w.alloc (.cells #[.slice Ai I.length ci, .slice Ao O.length co, .int .i64 0] 185)).alloc (.cells #[.slice Ai I.length ci, .slice Ao O.length co, .int .i64 0] 213)) (w.heap.size+1) .add I O Ai ci Ao co 0:=by
  rw[z1]at k2;refine⟨k2,(ri.below b12 lR_).more b12.size,(ro.below b12 lR_).more b12.size,hrt,trivial,fun q hq=>?_⟩
  rcases hq with hq|hq|hq
  ·have:=ai q hq;omega
  ·have:=ao q hq;omega
  ·exact hq.elim
 have HK:=Lh K;have HB:=Lh b12;generalize I.length=li at*;generalize O.length=lo at*;clear b1 k1 b2 k2 b12 K z1
 go_enter Tryz.func83, Tryz.ntmps83
 go_wp2_with fail
 go_ret;exact⟨.add,w.heap.size+1,rfl,HK.out,HB.out,by omega,fun q hq=>hq.elim⟩
theorem make_quot(I O:List Int)(Ai:Option Addr)(ci:Nat)(Ao:Option Addr)(co:Nat)(pv:Value)(w:World)(ri:Rd w w.heap.size Ai (cellsI I))(ro:Rd w w.heap.size Ao (cellsI O))(ai:∀q,blkOf Ai=some q→q<w.heap.size)(ao:∀q,blkOf Ao=some q→q<w.heap.size)(hrt:KdV.rates .quot I O):
  Calls Tryz.prog 83 #[.int .u8 7, .agg #[.slice Ai I.length ci, .slice Ao O.length co, .int .i64 0],pv] w (MakeOut w I O Ai ci Ao co):=by
 have b1:=bA_ w (.cells #[.slice Ai I.length ci, .slice Ao O.length co, .int .i64 0] 185);have k1:=bN_ b1;have z1:(w.alloc (.cells #[.slice Ai I.length ci, .slice Ao O.length co, .int .i64 0] 185)).heap.size=w.heap.size+1:=by simp
 have b2:=(Below.refl _ (w.alloc (.cells #[.slice Ai I.length ci, .slice Ao O.length co, .int .i64 0] 185))).alloc lR_ (.cells #[.slice Ai I.length ci, .slice Ao O.length co, .int .i64 0] 215);have k2:=Blk.new (w.alloc (.cells #[.slice Ai I.length ci, .slice Ao O.length co, .int .i64 0] 185)) _ rfl 215 #[.slice Ai I.length ci, .slice Ao O.length co, .int .i64 0];have c0:=k1.cellL 0 rfl;have c1:=k1.cellL 1 rfl;have c2:=k1.cellL 2 rfl;have b12:=b1.trans (b2.mono (by omega))
 have K:KdM ((w.alloc (.cells #[.slice Ai I.length ci, .slice Ao O.length co, .int .i64 0] 185)).alloc (.cells #[.slice Ai I.length ci, .slice Ao O.length co, .int .i64 0] 215)) (w.heap.size+1) .quot I O Ai ci Ao co 0:=by
  rw[z1]at k2;refine⟨k2,(ri.below b12 lR_).more b12.size,(ro.below b12 lR_).more b12.size,hrt,trivial,fun q hq=>?_⟩
  rcases hq with hq|hq|hq
  ·have:=ai q hq;omega
  ·have:=ao q hq;omega
  ·exact hq.elim
 have HK:=Lh K;have HB:=Lh b12;generalize I.length=li at*;generalize O.length=lo at*;clear b1 k1 b2 k2 b12 K z1
 go_enter Tryz.func83, Tryz.ntmps83
 go_wp2_with fail
 go_ret;exact⟨.quot,w.heap.size+1,rfl,HK.out,HB.out,by omega,fun q hq=>hq.elim⟩
theorem make_sum(I O:List Int)(Ai:Option Addr)(ci:Nat)(Ao:Option Addr)(co:Nat)(pv:Value)(w:World)(ri:Rd w w.heap.size Ai (cellsI I))(ro:Rd w w.heap.size Ao (cellsI O))(ai:∀q,blkOf Ai=some q→q<w.heap.size)(ao:∀q,blkOf Ao=some q→q<w.heap.size)(hrt:KdV.rates (.sum 0) I O):
  Calls Tryz.prog 83 #[.int .u8 8, .agg #[.slice Ai I.length ci, .slice Ao O.length co, .int .i64 0],pv] w (MakeOut w I O Ai ci Ao co):=by
 have b1:=bA_ w (.cells #[.slice Ai I.length ci, .slice Ao O.length co, .int .i64 0] 185);have k1:=bN_ b1;have z1:(w.alloc (.cells #[.slice Ai I.length ci, .slice Ao O.length co, .int .i64 0] 185)).heap.size=w.heap.size+1:=by simp
 have b2:=(Below.refl _ (w.alloc (.cells #[.slice Ai I.length ci, .slice Ao O.length co, .int .i64 0] 185))).alloc lR_ (.cells #[.slice Ai I.length ci, .slice Ao O.length co, .int .i64 0, .int .i64 0] 220);have k2:=Blk.new (w.alloc (.cells #[.slice Ai I.length ci, .slice Ao O.length co, .int .i64 0] 185)) _ rfl 220 #[.slice Ai I.length ci, .slice Ao O.length co, .int .i64 0, .int .i64 0];have c0:=k1.cellL 0 rfl;have c1:=k1.cellL 1 rfl;have c2:=k1.cellL 2 rfl;have b12:=b1.trans (b2.mono (by omega))
 have K:KdM ((w.alloc (.cells #[.slice Ai I.length ci, .slice Ao O.length co, .int .i64 0] 185)).alloc (.cells #[.slice Ai I.length ci, .slice Ao O.length co, .int .i64 0, .int .i64 0] 220)) (w.heap.size+1) (.sum 0) I O Ai ci Ao co 0:=by
  rw[z1]at k2;refine⟨k2,(ri.below b12 lR_).more b12.size,(ro.below b12 lR_).more b12.size,hrt,by show fits 0;unfold fits;omega,fun q hq=>?_⟩
  rcases hq with hq|hq|hq
  ·have:=ai q hq;omega
  ·have:=ao q hq;omega
  ·exact hq.elim
 have HK:=Lh K;have HB:=Lh b12;generalize I.length=li at*;generalize O.length=lo at*;clear b1 k1 b2 k2 b12 K z1
 go_enter Tryz.func83, Tryz.ntmps83
 go_wp2_with fail
 go_ret;exact⟨(.sum 0),w.heap.size+1,rfl,HK.out,HB.out,by omega,fun q hq=>hq.elim⟩
theorem make_copies(I O:List Int)(Ai:Option Addr)(ci:Nat)(Ao:Option Addr)(co:Nat)(pv:Value)(w:World)(ri:Rd w w.heap.size Ai (cellsI I))(ro:Rd w w.heap.size Ao (cellsI O))(ai:∀q,blkOf Ai=some q→q<w.heap.size)(ao:∀q,blkOf Ao=some q→q<w.heap.size)(hrt:KdV.rates .copies I O):
  Calls Tryz.prog 83 #[.int .u8 9, .agg #[.slice Ai I.length ci, .slice Ao O.length co, .int .i64 0],pv] w (MakeOut w I O Ai ci Ao co):=by
 have b1:=bA_ w (.cells #[.slice Ai I.length ci, .slice Ao O.length co, .int .i64 0] 185);have k1:=bN_ b1;have z1:(w.alloc (.cells #[.slice Ai I.length ci, .slice Ao O.length co, .int .i64 0] 185)).heap.size=w.heap.size+1:=by simp
 have b2:=(Below.refl _ (w.alloc (.cells #[.slice Ai I.length ci, .slice Ao O.length co, .int .i64 0] 185))).alloc lR_ (.cells #[.slice Ai I.length ci, .slice Ao O.length co, .int .i64 0] 222);have k2:=Blk.new (w.alloc (.cells #[.slice Ai I.length ci, .slice Ao O.length co, .int .i64 0] 185)) _ rfl 222 #[.slice Ai I.length ci, .slice Ao O.length co, .int .i64 0];have c0:=k1.cellL 0 rfl;have c1:=k1.cellL 1 rfl;have c2:=k1.cellL 2 rfl;have b12:=b1.trans (b2.mono (by omega))
 have K:KdM ((w.alloc (.cells #[.slice Ai I.length ci, .slice Ao O.length co, .int .i64 0] 185)).alloc (.cells #[.slice Ai I.length ci, .slice Ao O.length co, .int .i64 0] 222)) (w.heap.size+1) .copies I O Ai ci Ao co 0:=by
  rw[z1]at k2;refine⟨k2,(ri.below b12 lR_).more b12.size,(ro.below b12 lR_).more b12.size,hrt,trivial,fun q hq=>?_⟩
  rcases hq with hq|hq|hq
  ·have:=ai q hq;omega
  ·have:=ao q hq;omega
  ·exact hq.elim
 have HK:=Lh K;have HB:=Lh b12;generalize I.length=li at*;generalize O.length=lo at*;clear b1 k1 b2 k2 b12 K z1
 go_enter Tryz.func83, Tryz.ntmps83
 go_wp2_with fail
 go_ret;exact⟨.copies,w.heap.size+1,rfl,HK.out,HB.out,by omega,fun q hq=>hq.elim⟩
theorem make_drop(I O:List Int)(Ai:Option Addr)(ci:Nat)(Ao:Option Addr)(co:Nat)(pv:Value)(w:World)(ri:Rd w w.heap.size Ai (cellsI I))(ro:Rd w w.heap.size Ao (cellsI O))(ai:∀q,blkOf Ai=some q→q<w.heap.size)(ao:∀q,blkOf Ao=some q→q<w.heap.size)(hrt:KdV.rates .drop I O):
  Calls Tryz.prog 83 #[.int .u8 11, .agg #[.slice Ai I.length ci, .slice Ao O.length co, .int .i64 0],pv] w (MakeOut w I O Ai ci Ao co):=by
 have b1:=bA_ w (.cells #[.slice Ai I.length ci, .slice Ao O.length co, .int .i64 0] 185);have k1:=bN_ b1;have z1:(w.alloc (.cells #[.slice Ai I.length ci, .slice Ao O.length co, .int .i64 0] 185)).heap.size=w.heap.size+1:=by simp
 have b2:=(Below.refl _ (w.alloc (.cells #[.slice Ai I.length ci, .slice Ao O.length co, .int .i64 0] 185))).alloc lR_ (.cells #[.slice Ai I.length ci, .slice Ao O.length co, .int .i64 0] 227);have k2:=Blk.new (w.alloc (.cells #[.slice Ai I.length ci, .slice Ao O.length co, .int .i64 0] 185)) _ rfl 227 #[.slice Ai I.length ci, .slice Ao O.length co, .int .i64 0];have c0:=k1.cellL 0 rfl;have c1:=k1.cellL 1 rfl;have c2:=k1.cellL 2 rfl;have b12:=b1.trans (b2.mono (by omega))
 have K:KdM ((w.alloc (.cells #[.slice Ai I.length ci, .slice Ao O.length co, .int .i64 0] 185)).alloc (.cells #[.slice Ai I.length ci, .slice Ao O.length co, .int .i64 0] 227)) (w.heap.size+1) .drop I O Ai ci Ao co 0:=by
  rw[z1]at k2;refine⟨k2,(ri.below b12 lR_).more b12.size,(ro.below b12 lR_).more b12.size,hrt,trivial,fun q hq=>?_⟩
  rcases hq with hq|hq|hq
  ·have:=ai q hq;omega
  ·have:=ao q hq;omega
  ·exact hq.elim
 have HK:=Lh K;have HB:=Lh b12;generalize I.length=li at*;generalize O.length=lo at*;clear b1 k1 b2 k2 b12 K z1
 go_enter Tryz.func83, Tryz.ntmps83
 go_wp2_with fail
 go_ret;exact⟨.drop,w.heap.size+1,rfl,HK.out,HB.out,by omega,fun q hq=>hq.elim⟩
def ptOf:Value→Nat
 | .pointer (some a)=>a.block
 |_=>0
structure MkI(w0 w1:World)(gc:Nat)(Ai:Option Addr)(li ci:Nat)(Ao:Option Addr)(lo co:Nat)(P:Option Addr)(l c m:Nat)(ps:List Int)(L:Nat→Bool)(V:Nat→Value)(w:World):Prop where
 bel:Below w1.heap.size w1 w
 f2:L 2=true→V 12= .slice (sAddr (V 12)) l (sCap (V 12))∧w.ownsRow w1.heap.size 3 1 (V 12) l (cellsI ps)
 f6:L 6=true→V 16= .slice (some ⟨gbOf (V 16),0,none⟩) m m∧w.ownsRow w1.heap.size 3 1 (V 16) m (cellsI (rowF (fun _=>0) m))
 d7:L 7=true→L 2=true∧L 6=true
 d9:L 9=true→L 8=true
 f7:L 7=true→V 17= .agg #[.slice Ai li ci, .slice Ao lo co, .int .i64 0,V 12,V 16]
 f8:L 8=true→V 18= .pointer (some ⟨ptOf (V 18),0,none⟩)∧w1.heap.size≤ptOf (V 18)∧Blk w (ptOf (V 18)) 202 #[.slice Ai li ci, .slice Ao lo co, .int .i64 0,V 12,V 16]
 f9:L 9=true→V 19= .iface 200 (V 18)
 f10:L 10=true→V 6=V 19
 e0:L 0=true→V 10= .agg #[.slice Ai li ci, .slice Ao lo co, .int .i64 0]
 e1:L 1=true→V 11= .slice P l c
 e3:L 3=true→V 13= .slice P l c
 e4:L 4=true→V 14= .int .i64 (l:Nat)
 e5:L 5=true→V 15= .int .i64 (m:Nat)
theorem make_filter(I O:List Int)(Ai:Option Addr)(ci:Nat)(Ao:Option Addr)(co:Nat)(ps:List Int)(P:Option Addr)(l c:Nat)(w:World)(ri:Rd w w.heap.size Ai (cellsI I))(ro:Rd w w.heap.size Ao (cellsI O))(ai:∀q,blkOf Ai=some q→q<w.heap.size)(ao:∀q,blkOf Ao=some q→q<w.heap.size)
  (hI:I=[1]) (hO:O=[1]) (hl:ps.length=l) (hl1:1≤l∧l≤16) (hf:AllFit ps) (hp:Rd w w.heap.size P (cellsI ps)):
  Calls Tryz.prog 83 #[.int .u8 1, .agg #[.slice Ai I.length ci, .slice Ao O.length co, .int .i64 0], .slice P l c] w (MakeOut w I O Ai ci Ao co):=by
 obtain⟨m,hm⟩:∃m,l=m+1:=⟨l-1,by omega⟩
 have hmk:=run_make_row' (P:= Tryz.prog) 36 3 (.int .i64 0) 8 Tryz.underlying36 info_int rfl .i64 .i64 m (by omega) (by omega)
 have Hmk:=Lh hmk;have hlm:(l:Int)-1=(m:Int):=by omega
 have hlw:IntKind.i64.wrap (m:Int)=(m:Int):=by rw[IntKind.wrap_i64];omega
 have b1:=bA_ w (.cells #[.slice Ai I.length ci, .slice Ao O.length co, .int .i64 0] 185);have k1:=bN_ b1;obtain⟨W1,hW1⟩:=wN_ b1;obtain⟨gc,hgc0⟩:∃g,w.heap.size=g:=⟨_,rfl⟩;have hz1:W1.heap.size=gc+1:=by rw[←hW1,←hgc0];simp
 have HP:Hid (Rd W1 W1.heap.size P (cellsI ps)):=by rw[←hW1];exact(hp.below b1 lR_).more b1.size
 have HRI:Hid (Rd W1 W1.heap.size Ai (cellsI I)):=by rw[←hW1];exact(ri.below b1 lR_).more b1.size
 have HRO:Hid (Rd W1 W1.heap.size Ao (cellsI O)):=by rw[←hW1];exact(ro.below b1 lR_).more b1.size
 rw[hW1]at b1 k1;have c0:=k1.cellL 0 rfl;have c1:=k1.cellL 1 rfl;have c2:=k1.cellL 2 rfl;rw[hgc0]at c0 c1 c2;obtain⟨li,hli⟩:∃l,I.length=l:=⟨_,rfl⟩;obtain⟨lo,hlo⟩:∃l,O.length=l:=⟨_,rfl⟩;rw[hli]at c0;rw[hlo]at c1;have HC0:=Lh c0;have HC1:=Lh c1;have HC2:=Lh c2;have Hl:=Lh hl;rw[hli,hlo]at hW1;have HW1:=Lh hW1;have HB1:=Lh b1;have Hgc:=Lh hgc0;have Hli:=Lh hli;have Hlo:=Lh hlo;have hgc:gc<W1.heap.size:=by omega
 have Hz1:=Lh hz1;have Hm:=Lh hm;rw[hli,hlo];clear hmk b1 k1 c0 c1 c2 hW1 hgc0 hz1 hp ri ro hl hli hlo hm
 go_enter Tryz.func83, Tryz.ntmps83
 go_wp2_with fail
 try rw[HW1.out]
 try rw[Hgc.out]
 have hI0:∀V,MkI w W1 gc Ai li ci Ao lo co P l c m ps (fun _=>false) V W1.drew:=fun V=>by
  constructor
  all_goals first
   |exact Drawn.below _ ((Drawn.refl W1).drewN 1)
   |(intro h;cases h)
 refine wp_region_put3 [10,11,12,13,14,15,16,17,18,19,6] (MkI w W1 gc Ai li ci Ao lo co P l c m ps) (by kernel_rfl) (by kernel_rfl) ?_ ?_ ?_
 ·exact hI0 _
 ·intro i o ho L V w1 hi hL hno h K hK;simp only[putAll,List.foldl_cons,List.foldl_nil,List.setIfInBounds_toArray,List.set_cons_zero,List.set_cons_succ];rcases i with _|_|_|_|_|_|_|_|_|_|_|i
  ·obtain rfl:=sJ ho;have ct0:=(h.bel.cell (p:=⟨gc,0,none⟩) hgc).trans HC0.out;have ct1:=(h.bel.cell (p:=⟨gc,1,none⟩) hgc).trans HC1.out;have ct2:=(h.bel.cell (p:=⟨gc,2,none⟩) hgc).trans HC2.out;clear hL hno
   go_simp;exact hK (updV V 10 _) _ _ (by simp[putAll,updV]) {h with e0:=fun _=>rfl}
  ·obtain rfl:=sJ ho;clear hL hno
   go_simp;exact hK (updV V 11 _) _ _ (by simp[putAll,updV]) {h with e1:=fun _=>rfl}
  ·obtain rfl:=sJ ho;have e1:=h.e1 (hL ⟨1, .data⟩ (by simp) rfl)
   have l7:=hno 7 (by kernel_rfl)
   have l8:=hno 8 (by kernel_rfl)
   have l9:=hno 9 (by kernel_rfl)
   clear hL hno;have hz:=h.bel.size;have hr:=(HP.out.below h.bel lR_).more hz
   go_simp;refine(clone_any ps P l c w1 Hl.out hr (by omega)).mono ?_
   rintro e w3 ⟨A3,c3,rfl,o3,b3⟩;refine hK (updV V 12 (.slice A3 l c3)) _ _ (by simp[putAll,updV,e1]) ?_
   exact{h with
    bel:=h.bel.trans (b3.mono hz)
    f2:=fun _=>⟨rfl,World.ownsRow.mono o3 hz⟩
    f6:=fun hl=>⟨(h.f6 hl).1,own_below (h.f6 hl).2 b3⟩
    f7:=nX_ l7
    d7:=nX_ l7
    f8:=nX_ l8
    d9:=nX_ l9}
  ·obtain rfl:=sJ ho;clear hL hno
   go_simp;exact hK (updV V 13 _) _ _ (by simp[putAll,updV]) {h with e3:=fun _=>rfl}
  ·obtain rfl:=sJ ho;have e3:=h.e3 (hL ⟨3, .data⟩ (by simp) rfl)
   clear hL hno
   go_simp;exact hK (updV V 14 _) _ _ (by simp[putAll,updV,e3]) {h with e4:=fun _=>rfl}
  ·obtain rfl:=sJ ho;have e4:=h.e4 (hL ⟨4, .data⟩ (by simp) rfl)
   have q1:=hlm;have q2:=hlw;clear hL hno
   go_simp;exact hK (updV V 15 _) _ _ (by simp[putAll,updV,e4]) {h with e5:=fun _=>rfl}
  ·obtain rfl:=sJ ho;have e5:=h.e5 (hL ⟨5, .data⟩ (by simp) rfl)
   have l7:=hno 7 (by kernel_rfl)
   have l8:=hno 8 (by kernel_rfl)
   have l9:=hno 9 (by kernel_rfl)
   clear hL hno;have hz:=h.bel.size;have hmk:=Hmk.out;have hb:=bA_ w1 (.cells (madeCells #[.int .i64 0] m) 3);have hnew:(w1.alloc (.cells (madeCells #[.int .i64 0] m) 3)).ownsRow w1.heap.size 3 1 (.slice (some ⟨w1.heap.size,0,none⟩) m m) m (cellsI (rowF (fun _=>0) m)):=by rw[made_ints];exact own_new_Sl w1 _ rfl 3 _ m (by rw[cellsI_length,rowF_length]) (by unfold maxLen;omega)
   go_simp;refine hK (updV V 16 (.slice (some ⟨w1.heap.size,0,none⟩) m m)) _ _ (by simp[putAll,updV,e5]) ?_
   exact{h with
    bel:=h.bel.trans (hb.mono hz)
    f2:=fun hl=>⟨(h.f2 hl).1,own_below (h.f2 hl).2 hb⟩
    f6:=fun _=>⟨rfl,World.ownsRow.mono hnew hz⟩
    f7:=nX_ l7
    d7:=nX_ l7
    f8:=nX_ l8
    d9:=nX_ l9}
  ·obtain rfl:=sJ ho;have e0:=h.e0 (hL ⟨0, .data⟩ (by simp) rfl)
   have l2:L 2=true:=hL ⟨2, .data⟩ (by simp) rfl
   have l6:L 6=true:=hL ⟨6, .data⟩ (by simp) rfl
   have h2:=(h.f2 l2).1;have h6:=(h.f6 (hL ⟨6, .data⟩ (by simp) rfl)).1
   generalize sAddr (V 12)=A3 at h2;generalize sCap (V 12)=c3 at h2;generalize gbOf (V 16)=g6 at h6;clear hL hno
   go_simp;refine hK (updV V 17 (.agg #[.slice Ai li ci, .slice Ao lo co, .int .i64 0, .slice A3 l c3, .slice (some ⟨g6,0,none⟩) m m])) _ _ (by simp[putAll,updV,e0,h2,h6]) ?_
   exact{h with d7:=fun _=>⟨l2,l6⟩,f7:=fun _=>by show Value.agg _= .agg #[.slice Ai li ci, .slice Ao lo co, .int .i64 0,V 12,V 16];rw[h2,h6]}
  ·obtain rfl:=sJ ho;have h7:=h.f7 (hL ⟨7, .data⟩ (by simp) rfl)
   have l9:=hno 9 (by kernel_rfl)
   have l2:L 2=true:=h.d7 (hL ⟨7, .data⟩ (by simp) rfl)|>.1
   have l6:L 6=true:=h.d7 (hL ⟨7, .data⟩ (by simp) rfl)|>.2
   have h2:=h.f2 l2;have h6:=h.f6 l6;have H2:=Lh h2;have H6:=Lh h6;generalize sAddr (V 12)=A3 at h2;generalize sCap (V 12)=c3 at h2;generalize gbOf (V 16)=g6 at h6;have h21:=h2.1;have h61:=h6.1;rw[h21,h61]at h7;clear hL hno h2 h6;have hz:=h.bel.size;have hb:=bA_ w1 (.cells #[.slice Ai li ci, .slice Ao lo co, .int .i64 0, .slice A3 l c3, .slice (some ⟨g6,0,none⟩) m m] 202);have kb:=bN_ hb
   go_simp;refine hK (updV V 18 (.pointer (some ⟨w1.heap.size,0,none⟩))) _ _ (by simp[putAll,updV,h7,h21,h61]) ?_
   exact{h with
    bel:=h.bel.trans (hb.mono hz)
    f2:=fun hl=>⟨(h.f2 hl).1,own_below (h.f2 hl).2 hb⟩
    f6:=fun hl=>⟨(h.f6 hl).1,own_below (h.f6 hl).2 hb⟩
    d9:=nX_ l9
    f9:=nX_ l9
    f8:=fun _=>⟨rfl,hz,by show Blk _ _ _ #[.slice Ai li ci, .slice Ao lo co, .int .i64 0,V 12,V 16];rw[h21,h61];exact kb⟩}
  ·obtain rfl:=sJ ho;have l8:L 8=true:=hL ⟨8, .data⟩ (by simp) rfl
   have h8:=(h.f8 l8).1;have l10:=hno 10 (by kernel_rfl)
   generalize ptOf (V 18)=g8 at h8;clear hL hno
   go_simp;refine hK (updV V 19 (.iface 200 (.pointer (some ⟨g8,0,none⟩)))) _ _ (by simp[putAll,updV,h8]) ?_
   exact{h with d9:=fun _=>l8,f9:=fun _=>by show Value.iface _ _= .iface _ (V 18);rw[h8],f10:=nX_ l10}
  ·obtain rfl:=sJ ho;have h9:=h.f9 (hL ⟨9, .data⟩ (by simp) rfl)
   have h8:=(h.f8 (h.d9 (hL ⟨9, .data⟩ (by simp) rfl))).1
   generalize ptOf (V 18)=g8 at h8;rw[h8]at h9;clear hL hno
   go_simp;refine hK (updV V 6 (.iface 200 (.pointer (some ⟨g8,0,none⟩)))) _ _ (by simp[putAll,updV,h9,h8]) ?_
   exact{h with f10:=fun _=>h9.symm}
  ·simp at ho
 ·clear hI0;intro L V w2 hL h;have h2:=h.f2 (hL 2 (by simp))
  have h6:=h.f6 (hL 6 (by simp))
  have h8:=h.f8 (hL 8 (by simp))
  have e10:=(h.f10 (hL 10 (by simp))).trans (h.f9 (hL 9 (by simp)))
  have hb:=h.bel;clear h hL;generalize ptOf (V 18)=g8 at h8;generalize sAddr (V 12)=A3 at h2;generalize sCap (V 12)=c3 at h2;generalize gbOf (V 16)=g6 at h6;obtain⟨x2,o2⟩:=h2;obtain⟨x6,o6⟩:=h6;obtain⟨x8,hz8,k8⟩:=h8;rw[x2]at o2 k8;rw[x6]at o6 k8;rw[x8]at e10;have hz:=hb.size;have hw1:=Hz1.out;have K:KdM w2 g8 (.filter A3 c3 ps (some ⟨g6,0,none⟩) m (rowF (fun _=>0) m)) I O Ai ci Ao co 0:=by
   refine⟨?_,(HRI.out.below hb lR_).more hz,(HRO.out.below hb lR_).more hz,⟨hI,hO,by rw[Hl.out,rowF_length,Hm.out],by rw[rowF_length];have:=Hm.out;omega⟩,⟨rd_of_own o2,hf,rd_of_own o6,fun y hy=>?_⟩,fun q hq=>?_⟩
   ·have e:(KdV.filter A3 c3 ps (some ⟨g6,0,none⟩) m (rowF (fun _=>0) m)).extra=[.slice A3 l c3, .slice (some ⟨g6,0,none⟩) m m]:=by simp[KdV.extra,Hl.out,rowF_length]
    rw[e,Hli.out,Hlo.out];exact k8
   ·obtain⟨j,-,rfl⟩:=List.mem_map.1 hy;unfold fits;omega
   ·rcases hq with hq|hq|⟨-,hq⟩|⟨-,hq⟩
    ·have:=ai q hq;have:=Hgc.out;omega
    ·have:=ao q hq;have:=Hgc.out;omega
    ·intro hc;subst hc;have hk:=own_block o2 (b:=q) (by cases A3 with|none=>cases hq|some a=>exact hq)
     obtain⟨cs,hk⟩:=hk;exact absurd (blk_ty hk k8) (by decide)
    ·intro hc;subst hc;obtain⟨cs,hk⟩:=own_block o6 (b:=q) (by exact hq)
     exact absurd (blk_ty hk k8) (by decide)
  have hfix:∀q,KdV.fix (.filter A3 c3 ps (some ⟨g6,0,none⟩) m (rowF (fun _=>0) m)) q→w.heap.size≤q:=fun q hq=>by
   have:=Hgc.out
   rcases hq with⟨-,hq⟩|⟨-,hq⟩
   ·have:=own_ge o2 (k:=q) (by cases A3 with|none=>cases hq|some a=>exact hq)
    omega
   ·have:=own_ge o6 (k:=q) hq
    omega
  have HK:=Lh K;have HF:=Lh hfix;have HBB:=Lh (HB1.out.trans (hb.mono (by have:=Hgc.out;omega)))
  have Hz8:=Lh hz8;simp only[putAll,List.foldl_cons,List.foldl_nil,List.setIfInBounds_toArray,List.set_cons_zero,List.set_cons_succ,e10];clear x2 x6 x8 o2 o6 k8 e10 hb K hfix hz hz8 hw1
  go_wp2_with fail
  go_ret;exact⟨_,g8,rfl,HK.out,HBB.out,by have:=Hz8.out;have:=Hz1.out;have:=Hgc.out;omega,HF.out⟩
end Go.Proofs.YtpmlljbebdidgaaGreatDoor
