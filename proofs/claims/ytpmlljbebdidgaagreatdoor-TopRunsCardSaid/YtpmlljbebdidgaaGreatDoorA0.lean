/- Lemmas and walks for the claim: Z0, Ia, Ib, Ip, Ic, Id. -/
import Derived.Lib.Hide
import Derived.Below
import Derived.Test.YtpmlljbebdidgaaGreatDoorProg
import Derived.WalkKit
import Derived.Lib.Mul64
import Derived.Lib.TrailingZeros
import Derived.Laws.Bits64b
import Derived.Outline
import Derived.BigQuiet
import Derived.Deep.QuietTactic
set_option linter.unusedSimpArgs false
set_option maxRecDepth 100000
set_option maxHeartbeats 1000000
namespace Go.Proofs.YtpmlljbebdidgaaGreatDoor
open Go.RowKit
set_option linter.defProp false
def zc := @List.setIfInBounds_toArray
def zd := @List.set_cons_succ
def ze := @List.set_cons_zero
def zi := @List.foldl_cons
def zj := @List.foldl_nil
def zk := @List.getElem?_eq_getElem
def zm := @Below.refl
def zp := @List.getElem?_map
def zq := @Option.some.inj
def zr := @World.ownsRow_nil
def zu := @List.getElem?_eq_some_iff
def zv := @List.mem_of_getElem?
def zx := @List.length_append
def zy := @Nat.le_trans
def zz := @List.getD_eq_getElem?_getD
def zA := @List.length_map
def zC := @List.getElem?_toArray
def zD := @List.getElem?_eq_none
def zE := @Int.toNat_natCast
def zF := @Nat.le_refl
def zI := @List.getElem?_cons_zero
def zJ := @Nat.zero_le
def zK := @List.length_replicate
def zL := @List.take_of_length_le
def zM := @List.mem_range
def zO := @List.getElem?_append_right
def zP := @Nat.lt_of_lt_of_le
def zQ := @Array.getElem?_eq_some_iff
def zS := @List.drop_eq_nil_of_le
def zT := @List.getElem?_cons_succ
def zU := @List.all_eq_true
def zV := @List.mem_cons
def zW := @List.mem_singleton
def zX := @Option.some.injEq
def zY := @List.mem_map
def zaa := @Below.heap_setCell
def zab := @Nat.add_zero
def zad := @List.map_append
def zaf := @List.ext_getElem?
def zag := @Bool.and_eq_true
def zah := @List.drop_eq_getElem_cons
def zai := @Option.map_some
def zaj := @Prod.mk.injEq
def zak := @Int.mul_nonneg
def zam := @Int.mul_assoc
def zan := @List.take_add_one
def zaq := @Nat.zero_add
def zar := @List.getElem?_append_left
def zat := @List.getElem?_set_self
def zau := @Nat.not_lt_zero
def zav := @Bool.eq_iff_iff
def zax := @Int.natCast_mul
def zay := @Nat.mul_assoc
def zaC := @Int.mul_le_mul
def zaD := @List.length_nil
def zaE := @List.length_singleton
def zaF := @List.getElem_mem
def zaG := @List.length_cons
def zaH := @List.length_take
def zaJ := @List.getElem?_set
def zaK := @Nat.mul_comm
def zaL := @List.eq_nil_of_length_eq_zero
def zaM := @List.getElem?_set_ne
def zaN := @Nat.div_le_self
def zaO := @List.range_succ
def zaR := @List.length_set
def zaT := @Int.le_refl
def zaV := @List.map_congr_left
def zaX := @List.length_filter_le
def zaY := @Nat.mul_one
def zaZ := @List.mem_append
def za0 := @List.mem_cons_self
def za2 := @List.mem_cons_of_mem
def za3 := @Bool.true_and
def za4 := @Nat.add_assoc
def za5 := @And.intro
def za7 := @List.cons.injEq
def zbb := @List.ext_getElem
def zbc := @Int.natCast_nonneg
def zbd := @List.length_drop
def zbh := @List.getElem?_replicate
def zbn := @List.map_set
def zbo := @Array.getElem?_eq_none
def zbp := @Nat.sub_self
def zbr := @Nat.le_of_dvd
def zbs := @Option.getD_some
def zbt := @List.mem_reverse
def zbv := @Array.getElem?_eq_getElem
def zbw := @Nat.mul_pos
def zbx := @Int.mul_add
def zby := @List.append_nil
def zbz := @Nat.min_eq_left
def zbA := @Nat.zero_mul
def zbB := @World.cell?_of_block
def zbC := @Nat.gcd_dvd_right
def zbD := @Array.getElem?_setIfInBounds_self_of_lt
def zbE := @Nat.gcd_pos_of_pos_left
def zbF := @Nat.add_sub_cancel_left
def zbG := @Int.toNat_of_nonneg
def zbH := @List.getElem_of_mem
def zbI := @Nat.gcd_dvd_left
def zbJ := @Int.natCast_ediv
def zbM := @List.mem_replicate
def zbN := @Int.eq_of_mul_eq_mul_right
def zbO := @List.map_take
def zbQ := @List.foldl_append
def zbR := @List.append_assoc
def zbS := @Nat.mul_left_comm
def zbY := @List.getElem?_of_mem
def zbZ := @List.mem_append_left
def zb0 := @Nat.mul_le_mul_right
def zb1 := @Nat.eq_of_mul_eq_mul_left
def zb2 := @Int.mul_pos
def zce := @Int.mul_comm
def zcf := @Nat.lt_or_ge
def zcg := @Option.bind_some
def zch := @World.block_lt_of_cell?
def zci := @Nat.mul_div_cancel_left
def zcj := @Nat.exists_eq_add_of_le
def zcm := @List.map_drop
def zcn := @List.map_cons
def zct := @Nat.lt_of_le_of_lt
def zcu := @List.filter_append
def zcB := @Nat.div_pos
def zcC := @Int.mul_one
def zcD := @Option.map_eq_some_iff
def zcE := @Int.mul_le_mul_of_nonneg_left
def zcK := @Int.le_trans
def zcT := @List.take_length
def zcU := @List.mem_of_mem_take
def zcV := @List.not_mem_nil
def zcZ := @List.all_cons
def zc0 := @Nat.eq_of_mul_eq_mul_right
def zc1 := @Nat.lt_irrefl
def zc4 := @Nat.mod_one
def zc8 := @List.replicate_succ
def zc9 := @Bool.or_eq_true
def zda := @List.sum_append
def zdb := @Classical.byContradiction
def zdc := @List.mem_or_eq_of_mem_set
def zdk := @List.map_nil
def zdl := @Bool.false_eq_true
def zdx := @Nat.mul_le_mul
def zdy := @List.length_eq_zero_iff
def zdz := @List.flatMap_cons
def zdK := @Nat.le_succ
def zdL := @Nat.add_mul
def zdM := @Nat.one_mul
def zdN := @Nat.mul_add
def zdV := @Nat.mod_eq_of_lt
def zdW := @Nat.min_eq_right
theorem Lh {p : Prop} (h : p) : Hid p := h
theorem sJ {α : Type} {a b : α} (h : some a = some b) : a = b := zq h
theorem nX_ {b : Bool} {p : Prop} (h : b = false) : b = true → p := fun hn => (by cases (hn.symm.trans h))
theorem nT_ {p : Prop} : true = false → p := fun h => (by cases h)
theorem lR_ {n : Nat} : n ≤ n := zF n
theorem bA_ (w : World) (o : Obj) : Below w.heap.size w (w.alloc o) := (zm w.heap.size w).alloc (zF _) o
theorem wN_ {n : Nat} {w w' : World} (_ : Below n w w') : ∃ W, w' = W := ⟨_, rfl⟩
def fits(n:Int):Prop:= -9223372036854775808≤n∧n≤9223372036854775807
def okOf(n:Int):Int:=if-9223372036854775808≤n∧n≤9223372036854775807 then n else 0
def okB(n:Int):Bool:=decide (-9223372036854775808≤n∧n≤9223372036854775807)
theorem zgh(n:Int):fits (okOf n):=by
 unfold okOf fits;split<;>omega
theorem val_yes{n:Int}(h:fits n):n=okOf n:=by unfold fits at h;unfold okOf;rw[if_pos h]
theorem val_no{n:Int}(h:¬fits n):0=okOf n:=by unfold fits at h;unfold okOf;rw[if_neg h]
theorem b_yes{n:Int}(h:fits n):true=okB n:=by unfold fits at h;unfold okB;exact(decide_eq_true h).symm
theorem b_no{n:Int}(h:¬fits n):false=okB n:=by unfold fits at h;unfold okB;exact(decide_eq_false h).symm
theorem zbk{n:Int}:okB n=true↔fits n:=by unfold okB fits;exact decide_eq_true_iff
theorem tup2{a b:Int}{c d:Bool}(h:a=b)(h':c=d):Ending.returned (.tuple #[.int .i64 a, .bool c])= .returned (.tuple #[.int .i64 b, .bool d]):=by rw[h,h']
theorem zk1{k:IntKind}{a b:Int}(h:a=b):Ending.returned (.int k a)= .returned (.int k b):=by rw[h]
theorem zeV(a b:Int)(w:World)(ha:fits a)(hb:fits b):
  Calls Tryz.prog 134 #[.int .i64 a, .int .i64 b] w fun e w'=>e= .returned (.tuple #[.int .i64 (okOf (a+b)), .bool (okB (a+b))])∧w=w':=by
 unfold fits at ha hb
 go_enter Tryz.func134, Tryz.ntmps134
 go_wp2
 all_goals go_ret2
 all_goals first
  |(refine⟨tup2 (val_yes ?_) (b_yes ?_),rfl⟩<;>unfold fits<;>omega)
  |(refine⟨tup2 (val_no ?_) (b_no ?_),rfl⟩<;>unfold fits<;>omega)
theorem zoP(a b:Int)(w:World)(ha:fits a)(hb:fits b):
  Calls Tryz.prog 143 #[.int .i64 a, .int .i64 b] w fun e w'=>e= .returned (.tuple #[.int .i64 (okOf (a-b)), .bool (okB (a-b))])∧w=w':=by
 unfold fits at ha hb
 go_enter Tryz.func143, Tryz.ntmps143
 go_wp2
 all_goals go_ret2
 all_goals first
  |(refine⟨tup2 (val_yes ?_) (b_yes ?_),rfl⟩<;>unfold fits<;>omega)
  |(refine⟨tup2 (val_no ?_) (b_no ?_),rfl⟩<;>unfold fits<;>omega)
theorem zi4(a:Int)(w:World)(ha:fits a):
  Calls Tryz.prog 74 #[.int .i64 a] w fun e w'=>e= .returned (.int .u64 (a.natAbs:Int))∧w=w':=by
 unfold fits at ha
 go_enter Tryz.func74, Tryz.ntmps74
 go_wp2
 all_goals go_ret
 all_goals (refine⟨zk1 ?_,rfl⟩)
 ·rw[IntKind.wrap_u64,IntKind.wrap_u64];omega
 ·omega
theorem zk2(a:Nat)(ha:a<18446744073709551616):bits .and .u64 (a:Int) 4294967295=((a%4294967296:Nat):Int):=by
 have h:=bits_and_u64_nat a 4294967295 ha (by omega)
 have e:a&&&4294967295=a%4294967296:=Nat.and_two_pow_sub_one_eq_mod a 32
 rw[e]at h;exact h
theorem zpD(a:Nat):(a:Int)/4294967296=((a/4294967296:Nat):Int):=by omega
theorem zpE(a b:Nat):(a:Int)*(b:Int)=((a*b:Nat):Int):=(zax a b).symm
theorem zpF(a b:Nat):(a:Int)+(b:Int)=((a+b:Nat):Int):=(Int.natCast_add a b).symm
theorem zdq(a:Nat)(ha:a<18446744073709551616):IntKind.u64.wrap (a:Int)=(a:Int):=by rw[IntKind.wrap_u64];omega
theorem zpA(a:Nat):IntKind.u64.wrap (a:Int)=((a%18446744073709551616:Nat):Int):=by rw[IntKind.wrap_u64];omega
theorem zh6(x y:Nat)(hx:x<18446744073709551616)(hy:y<18446744073709551616)(w:World):
  Calls Tryz.prog 72 #[.int .u64 x, .int .u64 y] w fun e w'=>e= .returned (.tuple #[.int .u64 ((x*y/18446744073709551616:Nat):Int), .int .u64 ((x*y%18446744073709551616:Nat):Int)])∧w=w':=by
 obtain⟨bd,bt,bw,hhi⟩:=Lib.mul64_hi x y hx hy;have ba:=Lib.half_mul_le (a:=x/4294967296) (b:=y/4294967296) (by omega) (by omega)
 have bb:=Lib.half_mul_le (a:=x/4294967296) (b:=y%4294967296) (by omega) (by omega)
 have bc:=Lib.half_mul_le (a:=x%4294967296) (b:=y/4294967296) (by omega) (by omega)
 have ba':x/4294967296*(y/4294967296)<18446744073709551616:=by omega
 have bb':x/4294967296*(y%4294967296)<18446744073709551616:=by omega
 have bc':x%4294967296*(y/4294967296)<18446744073709551616:=by omega
 have bh1:x/4294967296*(y/4294967296)+(x/4294967296*(y%4294967296)+x%4294967296*(y%4294967296)/4294967296)/4294967296<18446744073709551616:=by omega
 have bh:x/4294967296*(y/4294967296)+(x/4294967296*(y%4294967296)+x%4294967296*(y%4294967296)/4294967296)/4294967296+((x/4294967296*(y%4294967296)+x%4294967296*(y%4294967296)/4294967296)%4294967296+x%4294967296*(y/4294967296))/4294967296<18446744073709551616:=by omega
 go_enter Tryz.func72, Tryz.ntmps72
 go_wp2
 simp only[zk2 x hx,zk2 y hy,zpD,zpE,zpF,zdq _ bd,zdq _ bb',zdq _ bt,zk2 _ bt,zdq _ bc',zdq _ bw,zdq _ ba',zdq _ bh1,zdq _ bh,zpA (x*y)];rw[hhi]
 go_ret2;exact⟨rfl,rfl⟩
theorem ze5(a b:Int):((!decide (a<0)==decide (b<0))=false→a*b=(a.natAbs:Int)*b.natAbs)∧((!decide (a<0)==decide (b<0))=true→a*b= -((a.natAbs:Int)*b.natAbs))∧(0:Int)≤(a.natAbs:Int)*b.natAbs:=by
 refine⟨?_,?_,zak (by omega) (by omega)⟩
 ·intro h;by_cases h1:a<0<;>by_cases h2:b<0<;>simp[h1,h2]at h
  ·obtain⟨x,hx⟩:∃x:Nat,a= -x:=⟨a.natAbs,by omega⟩
   obtain⟨y,hy⟩:∃y:Nat,b= -y:=⟨b.natAbs,by omega⟩
   subst hx hy;simp[Int.neg_mul_neg]
  ·obtain⟨x,hx⟩:∃x:Nat,a=x:=⟨a.natAbs,by omega⟩
   obtain⟨y,hy⟩:∃y:Nat,b=y:=⟨b.natAbs,by omega⟩
   subst hx hy;simp
 ·intro h;by_cases h1:a<0<;>by_cases h2:b<0<;>simp[h1,h2]at h
  ·obtain⟨x,hx⟩:∃x:Nat,a= -x:=⟨a.natAbs,by omega⟩
   obtain⟨y,hy⟩:∃y:Nat,b=y:=⟨b.natAbs,by omega⟩
   subst hx hy;simp[Int.neg_mul]
  ·obtain⟨x,hx⟩:∃x:Nat,a=x:=⟨a.natAbs,by omega⟩
   obtain⟨y,hy⟩:∃y:Nat,b= -y:=⟨b.natAbs,by omega⟩
   subst hx hy;simp[Int.mul_neg]
section
variable {a b:Int}
theorem zpj(h:((a.natAbs:Int)*b.natAbs/18446744073709551616 !=0)=true):¬fits (a*b):=by
 obtain⟨h1,h2,h0⟩:=ze5 a b;unfold fits;simp only[bne_iff_ne,ne_eq]at h;cases hs:(!decide (a<0)==decide (b<0))
 ·rw[h1 hs];omega
 ·rw[h2 hs];omega
theorem zpk(h:((a.natAbs:Int)*b.natAbs/18446744073709551616 !=0)=false)(hs:(!decide (a<0)==decide (b<0))=true)(hl:9223372036854775808<(a.natAbs:Int)*b.natAbs%18446744073709551616):¬fits (a*b):=by
 obtain⟨h1,h2,h0⟩:=ze5 a b;unfold fits;simp only[bne_eq_false_iff_eq]at h;rw[h2 hs];omega
theorem zpl(h:((a.natAbs:Int)*b.natAbs/18446744073709551616 !=0)=false)(hs:(!decide (a<0)==decide (b<0))=true)(hl:(a.natAbs:Int)*b.natAbs%18446744073709551616≤9223372036854775808):
  fits (a*b)∧wrap64 (IntKind.u64.wrap (-((a.natAbs:Int)*b.natAbs%18446744073709551616)))=a*b:=by
 obtain⟨h1,h2,h0⟩:=ze5 a b;unfold fits wrap64;rw[IntKind.wrap_u64];simp only[bne_eq_false_iff_eq]at h;rw[h2 hs];omega
theorem zpm(h:((a.natAbs:Int)*b.natAbs/18446744073709551616 !=0)=false)(hs:(!decide (a<0)==decide (b<0))=false)(hl:9223372036854775807<(a.natAbs:Int)*b.natAbs%18446744073709551616):¬fits (a*b):=by
 obtain⟨h1,h2,h0⟩:=ze5 a b;unfold fits;simp only[bne_eq_false_iff_eq]at h;rw[h1 hs];omega
theorem zpn(h:((a.natAbs:Int)*b.natAbs/18446744073709551616 !=0)=false)(hs:(!decide (a<0)==decide (b<0))=false)(hl:(a.natAbs:Int)*b.natAbs%18446744073709551616≤9223372036854775807):
  fits (a*b)∧(a.natAbs:Int)*b.natAbs%18446744073709551616=a*b:=by
 obtain⟨h1,h2,h0⟩:=ze5 a b;unfold fits;simp only[bne_eq_false_iff_eq]at h;rw[h1 hs];omega
end
theorem zfB(a b:Int)(w:World)(ha:fits a)(hb:fits b):
  Calls Tryz.prog 94 #[.int .i64 a, .int .i64 b] w fun e w'=>e= .returned (.tuple #[.int .i64 (okOf (a*b)), .bool (okB (a*b))])∧w=w':=by
 have ha':a.natAbs<18446744073709551616:=by unfold fits at ha;omega
 have hb':b.natAbs<18446744073709551616:=by unfold fits at hb;omega
 go_enter Tryz.func94, Tryz.ntmps94
 go_wp2_with (first|(go_at_call 74;refine(zi4 _ _ (by assumption)).mono ?_;rintro e w' ⟨rfl,rfl⟩)|(go_at_call 72;refine(zh6 _ _ (by assumption) (by assumption) _).mono ?_;rintro e w' ⟨rfl,rfl⟩))
 all_goals go_ret2
 ·have h:=zpj (a:=a) (b:=b) (by assumption)
  exact⟨tup2 (val_no h) (b_no h),rfl⟩
 ·have h:=zpk (a:=a) (b:=b) (by assumption) (by assumption) (by assumption)
  exact⟨tup2 (val_no h) (b_no h),rfl⟩
 ·have h:=zpl (a:=a) (b:=b) (by assumption) (by assumption) (by assumption)
  exact⟨tup2 (h.2.trans (val_yes h.1)) (b_yes h.1),rfl⟩
 ·have h:=zpm (a:=a) (b:=b) (by assumption) (by assumption) (by assumption)
  exact⟨tup2 (val_no h) (b_no h),rfl⟩
 ·have h:=zpn (a:=a) (b:=b) (by assumption) (by assumption) (by assumption)
  exact⟨tup2 (h.2.trans (val_yes h.1)) (b_yes h.1),rfl⟩
def Tab(w:World):Prop:=∀j,j<64→w.cell? ⟨0,j,none⟩=some (.int .u8 (Lib.deBruijn64tab.getD j 0))
theorem zoQ(x k idx:Nat)(w:World)(hx0:((x:Int)==0)=false)
  (key:IntKind.u64.wrap (bits BinOp.and IntKind.u64 (x:Int) (IntKind.u64.wrap (-(x:Int)))*285870213051353865)/288230376151711744=(idx:Int))
  (hi:idx<64) (hk:k<64) (hcell:w.cell? ⟨0,idx,none⟩=some (.int .u8 k)):
  Calls Tryz.prog 90 #[.int .u64 x] w fun e w'=>e= .returned (.int .i64 k)∧w=w':=by
 go_enter Tryz.func90, Tryz.ntmps90
 go_wp2_with (simp only[key])
 go_ret;exact⟨rfl,rfl⟩
theorem zpo(x a:Nat)(hx:x<18446744073709551616)(hx0:x≠0)(hlow:x&&&(18446744073709551616-x)=a):
  IntKind.u64.wrap (bits BinOp.and IntKind.u64 (x:Int) (IntKind.u64.wrap (-(x:Int)))*285870213051353865)/288230376151711744=((a*285870213051353865%18446744073709551616/288230376151711744:Nat):Int):=by
 have e1:IntKind.u64.wrap (-(x:Int))=((18446744073709551616-x:Nat):Int):=by rw[IntKind.wrap_u64];omega
 rw[e1,bits_and_u64_nat x _ hx (by omega),hlow,IntKind.wrap_u64]
 omega
theorem zmr(x:Nat)(hx:x<18446744073709551616)(hx0:x≠0)(w:World)(hT:Tab w):
  Calls Tryz.prog 90 #[.int .u64 x] w fun e w'=>e= .returned (.int .i64 (Lib.ctz 64 x))∧w=w':=by
 obtain⟨hlow,hk⟩:=Lib.lowest_bit 64 x hx0 hx;obtain⟨hi,htab⟩:=Lib.deBruijn64_at _ hk;have hcell:=hT _ hi;rw[htab]at hcell;exact zoQ x _ _ w (by simp;omega) (zpo x _ hx hx0 hlow) hi hk hcell
def Rd(w:World)(B:Nat)(A:Option Addr)(cs:List Value):Prop:=
 cs=[]∨∃b off,A=some ⟨b,off,none⟩∧b<B∧∀j u,cs[j]?=some u→w.cell? ⟨b,off+j,none⟩=some u
def cellsI(xs:List Int):List Value:=xs.map (Value.int .i64)
def AllFit(xs:List Int):Prop:=∀x∈xs,fits x
theorem cellsI_length(xs:List Int):(cellsI xs).length=xs.length:=by simp[cellsI]
theorem Rd.at_{w:World}{B:Nat}{A:Option Addr}{xs:List Int}{k:Nat}(h:Rd w B A (cellsI xs))(hx:AllFit xs)(hk:k<xs.length):
  ∃b off x,A=some ⟨b,off,none⟩∧b<B∧fits x∧w.cell? ⟨b,off+k,none⟩=some (.int .i64 x)∧Hid (xs.drop k=x::xs.drop (k+1))∧Hid (xs[k]?=some x):=by
 rcases h with h|⟨b,off,ha,hb,hc⟩
 ·have:=cellsI_length xs;rw[h]at this;simp at this;omega
 ·refine⟨b,off,xs[k],ha,hb,hx _ (zaF _),hc k _ ?_,zah hk,zk hk⟩;simp[cellsI,zp,zk hk]
theorem zk3{x:Int}(h:fits x):x.natAbs<18446744073709551616:=by unfold fits at h;omega
def sumFrom(t:Int):List Int→Int×Bool
 |[]=>(t,true)
 |x::xs=>if okB (t+x)=true then sumFrom (t+x) xs else(0,false)
theorem zoR(xs:List Int)(A:Option Addr)(n c B:Nat)(w:World)(hn:xs.length=n)(hx:AllFit xs)(hr:Rd w B A (cellsI xs))(hl:xs.length≤maxLen):
  Calls Tryz.prog 141 #[.slice A n c] w fun e w'=>e= .returned (.tuple #[.int .i64 (sumFrom 0 xs).1, .bool (sumFrom 0 xs).2])∧w=w':=by
 subst hn;unfold maxLen at hl
 go_enter Tryz.func141, Tryz.ntmps141
 go_wp2
 go_loop [4,10] (fun t i=>∃(k:Nat) (s:Int),k≤xs.length∧i= .int .i64 k∧t= .int .i64 s∧fits s∧sumFrom 0 xs=sumFrom s (xs.drop k)) (fun _ i=>xs.length-(intOf i).toNat)
 case atStart=>exact⟨0,0,zJ _,rfl,rfl,by unfold fits;omega,rfl⟩
 case round=>
  obtain⟨k,s,hk,rfl,rfl,hs,he⟩:=hrel;have He:=Lh he;clear he;by_cases hlt:k<xs.length
  ·obtain⟨b,off,x,rfl,hb,hxk,hc,hd,-⟩:=hr.at_ hx hlt;cases hn:okB (s+x)
   ·have hn':=Lh hn
    go_wp2_with (go_at_call 134;refine(zeV _ _ _ hs hxk).mono ?_;rintro e w' ⟨rfl,rfl⟩)
    go_ret2;exact⟨tup2 (by rw[He.out,hd.out,sumFrom,hn'.out];rfl) (by rw[He.out,hd.out,sumFrom,hn'.out];rfl),rfl⟩
   ·have hn':=Lh hn
    go_wp2_with (go_at_call 134;refine(zeV _ _ _ hs hxk).mono ?_;rintro e w' ⟨rfl,rfl⟩)
    go_round
    case rel=>exact⟨k+1,s+x,by omega,by go_num,by rw[←val_yes (zbk.1 hn'.out)],zbk.1 hn'.out,by rw[He.out,hd.out,sumFrom,hn'.out];rfl⟩
    case measure=>simp[intOf];omega
  ·go_wp2
   go_ret2;have hd:xs.drop k=[]:=zS (by omega)
   exact⟨tup2 (by rw[He.out,hd];rfl) (by rw[He.out,hd];rfl),rfl⟩
end Go.Proofs.YtpmlljbebdidgaaGreatDoor
namespace Go.Proofs.YtpmlljbebdidgaaGreatDoor
open Go
theorem zhl{p:Nat}(k:Nat)(hp:p%2=1):Nat.Coprime (2^k) p:=by
 apply Nat.Coprime.pow_left
 show Nat.gcd 2 p=1
 rw[Nat.gcd_rec,hp];decide
theorem zgi{x:Nat}(hx:x<18446744073709551616)(h0:x≠0):∃m,x=2^Lib.ctz 64 x*(2*m+1)∧Lib.ctz 64 x<64:=by
 unfold Lib.ctz;rw[if_neg h0];exact Lib.ctzFrom_spec 64 x (by omega) hx
theorem zhF{x:Nat}(hx:x<18446744073709551616)(h0:x≠0):
  ∃m:Nat,(x:Int)/2^min (Lib.ctz 64 x) 64=(m:Int)∧m%2=1∧x=2^Lib.ctz 64 x*m∧m≤x∧0<m:=by
 obtain⟨m,hm,hk⟩:=zgi hx h0;have hp:0<2^Lib.ctz 64 x:=Nat.pow_pos (by decide)
 refine⟨2*m+1,?_,by omega,hm,?_,by omega⟩
 ·rw[zbz (by omega)]
  have:x/2^Lib.ctz 64 x=2*m+1:=Nat.div_eq_of_eq_mul_right hp hm
  rw[←this];simp[zbJ,Int.natCast_pow]
 ·rw[hm];exact Nat.le_mul_of_pos_left _ hp
theorem zk4{x i m:Nat}(hx:x<18446744073709551616)(h:x=2^i*m)(hm:m%2=1):Lib.ctz 64 x=i:=by
 have h0:x≠0:=by
  rw[h];exact Nat.mul_ne_zero (Nat.ne_of_gt (Nat.pow_pos (by decide))) (by omega)
 obtain⟨n,hn,_⟩:=zgi hx h0;generalize Lib.ctz 64 x=j at hn;rcases Nat.lt_trichotomy j i with hl|hl|hl
 ·exfalso
  obtain⟨d,rfl⟩:∃d,i=j+(d+1):=⟨i-j-1,by omega⟩
  rw[Nat.pow_add,zay]at h;have:2*n+1=2^(d+1)*m:=zb1 (Nat.pow_pos (by decide:0<2)) (hn.symm.trans h)
  rw[Nat.pow_succ,Nat.mul_right_comm]at this;omega
 ·exact hl
 ·exfalso
  obtain⟨d,rfl⟩:∃d,j=i+(d+1):=⟨j-i-1,by omega⟩
  rw[Nat.pow_add,zay]at hn;have:m=2^(d+1)*(2*n+1):=zb1 (Nat.pow_pos (by decide:0<2)) (h.symm.trans hn)
  rw[Nat.pow_succ,Nat.mul_right_comm]at this;omega
theorem zps{x y i j a b:Nat}(hx:x=2^i*a)(hy:y=2^j*b)(ha:a%2=1)(hb:b%2=1):
  ∃m,x|||y=2^min i j*m∧m%2=1:=by
 have key:∀{i d a b:Nat},a%2=1→b%2=1→∃m,(2^i*a)|||(2^(i+d)*b)=2^i*m∧m%2=1:=by
  intro i d a b ha hb;refine⟨a|||2^d*b,?_,?_⟩
  ·rw[Nat.pow_add,zay];apply Nat.eq_of_testBit_eq;intro k;simp only[Nat.testBit_or,Nat.testBit_two_pow_mul];cases decide (k≥i)<;>simp
  ·rw[Nat.or_mod_two_eq_one];left;exact ha
 rcases Nat.le_total i j with h|h
 ·obtain⟨d,rfl⟩:=zcj h;rw[hx,hy,zbz h];exact key ha hb
 ·obtain⟨d,rfl⟩:=zcj h;rw[hx,hy,zdW h,Nat.or_comm];exact key hb ha
theorem zpt{x y i j a b:Nat}(h:x|||y<18446744073709551616)(hx:x=2^i*a)(hy:y=2^j*b)(ha:a%2=1)(hb:b%2=1):Lib.ctz 64 (x|||y)=min i j:=by
 obtain⟨m,hm,h1⟩:=zps hx hy ha hb;exact zk4 h hm h1
theorem zfc{p q k m:Nat}(hp:p%2=1)(hq:q=2^k*m):Nat.gcd p q=Nat.gcd p m:=by
 rw[hq];exact Nat.Coprime.gcd_mul_left_cancel_right _ (zhl k hp)
theorem zk5{x y i j a b:Nat}(hx:x=2^i*a)(hy:y=2^j*b)(ha:a%2=1)(hb:b%2=1):Nat.gcd x y=Nat.gcd a y*2^min i j:=by
 have e:Nat.gcd a y=Nat.gcd a b:=zfc ha hy
 rw[e];rcases Nat.le_total i j with h|h
 ·obtain⟨d,rfl⟩:=zcj h;rw[zbz h,hx,hy,Nat.pow_add,zay,Nat.gcd_mul_left,zaK]
  congr 1
  exact zfc ha rfl
 ·obtain⟨d,rfl⟩:=zcj h;rw[zdW h,hx,hy,Nat.pow_add,zay,Nat.gcd_mul_left,zaK]
  congr 1
  rw[Nat.gcd_comm,zfc hb rfl,Nat.gcd_comm]
theorem zi6{p q:Nat}(h:p≤q):Nat.gcd p (q-p)=Nat.gcd p q:=by
 conv=>rhs;rw[←Nat.sub_add_cancel h]
 simp
end Go.Proofs.YtpmlljbebdidgaaGreatDoor
namespace Go.Proofs.YtpmlljbebdidgaaGreatDoor
open Go.RowKit
theorem znM{a b:Int}(h:a=b):Ending.returned (.int .u64 a)= .returned (.int .u64 b):=by rw[h]
theorem zjY(x y:Nat)(hx:x<18446744073709551616)(hy:y<18446744073709551616)(hx0:0<x)(hy0:0<y)(w:World)(hT:Tab w):
  Calls Tryz.prog 73 #[.int .u64 x, .int .u64 y] w fun e w'=>e= .returned (.int .u64 (Nat.gcd x y:Nat))∧w=w':=by
 have e1:((x:Int)==0)=false:=by simp;omega
 have e2:((y:Int)==0)=false:=by simp;omega
 have ho:bits BinOp.or IntKind.u64 (x:Int) (y:Int)=((x|||y:Nat):Int):=bits_or_u64_nat x y hx hy
 have hol:x|||y<18446744073709551616:=Nat.or_lt_two_pow (n:=64) hx hy
 have ho0:x|||y≠0:=by intro h;have:=(Nat.or_eq_zero_iff.1 h).1;omega
 obtain⟨a,hsa,ha1,hxa,hax,ha0⟩:=zhF hx (by omega:x≠0)
 obtain⟨b,-,hb1,hyb,-,hb0⟩:=zhF hy (by omega:y≠0)
 have Hg:=Lh (zk5 hxa hyb ha1 hb1);have Hc:=Lh (zpt hol hxa hyb ha1 hb1);have Ha1:=Lh ha1;have hgx:Nat.gcd x y≤x:=Nat.gcd_le_left _ hx0;clear hxa hyb ha1 hb1 hb0
 go_enter Tryz.func73, Tryz.ntmps73
 go_wp2_with (go_at_call 90;refine(zmr _ (by assumption) (by first|assumption|omega) _ hT).mono ?_;rintro e w' ⟨rfl,rfl⟩)
 clear hsa e1 e2 ho
 go_loop [0,1] (fun s t=>∃p q:Nat,s= .int .u64 p∧t= .int .u64 q∧p<18446744073709551616∧q<18446744073709551616∧Hid (p%2=1)∧Hid (Nat.gcd p q=Nat.gcd a y)) (fun s t=>(intOf s).toNat+(intOf t).toNat)
 case atStart=>exact⟨a,y,rfl,rfl,by omega,hy,Ha1,rfl⟩
 case round=>
  obtain⟨p,q,rfl,rfl,hp,hq,hp1,hpq⟩:=hrel;have hp0:0<p:=by have:=hp1.out;omega
  by_cases hq0:q=0
  ·subst hq0;have hlim:Nat.gcd x y<18446744073709551616:=by omega
   go_wp2
   go_ret;refine⟨znM ?_,rfl⟩
   obtain⟨_,_,hc64⟩:=zgi hol ho0;have hpe:p=Nat.gcd a y:=by rw[←hpq.out,Nat.gcd_zero_right]
   have hz:(p:Int)*2^min (Lib.ctz 64 (x|||y)) 64=((Nat.gcd x y:Nat):Int):=by
    rw[zbz (by omega),Hc.out,Hg.out,←hpe]
    simp[Int.natCast_pow]
   rw[hz];exact zdq _ hlim
  ·have e3:((q:Int) !=0)=true:=by simp;omega
   obtain⟨r,hsr,hr1,hqr,hrq,hr0⟩:=zhF hq hq0;have Hr1:=Lh hr1;have Hq:=Lh (zfc hp1.out hqr);clear hr1 hqr
   go_wp2_with (go_at_call 90;refine(zmr _ (by assumption) (by first|assumption|omega) _ hT).mono ?_;rintro e w' ⟨rfl,rfl⟩)
   ·go_round
    case rel=>exact⟨r,p-r,by go_num,by go_num,by omega,by omega,Hr1,(zi6 (by omega)).trans ((Nat.gcd_comm _ _).trans (Hq.out.symm.trans hpq.out))⟩
    case measure=>simp[intOf];omega
   ·go_round
    case rel=>exact⟨p,r-p,by go_num,by go_num,by omega,by omega,hp1,(zi6 (by omega)).trans (Hq.out.symm.trans hpq.out)⟩
    case measure=>simp[intOf];omega
theorem zi5(x y:Nat)(hx:x<18446744073709551616)(hy:y<18446744073709551616)(h:x=0∨y=0)(w:World):
  Calls Tryz.prog 73 #[.int .u64 x, .int .u64 y] w fun e w'=>e= .returned (.int .u64 (Nat.gcd x y:Nat))∧w=w':=by
 have ho:bits BinOp.or IntKind.u64 (x:Int) (y:Int)=((x|||y:Nat):Int):=bits_or_u64_nat x y hx hy
 by_cases h1:x=0
 ·have e1:((x:Int)==0)=true:=by simp;omega
  have he:x|||y=Nat.gcd x y:=by rw[h1];simp
  have He:=Lh he;clear he h1 h
  go_enter Tryz.func73, Tryz.ntmps73
  go_wp2
  go_ret;exact⟨znM (by rw[He.out]),rfl⟩
 ·have h2:y=0:=by omega
  have e1:((x:Int)==0)=false:=by simp;omega
  have e2:((y:Int)==0)=true:=by simp;omega
  have he:x|||y=Nat.gcd x y:=by rw[h2];simp
  have He:=Lh he;clear he h1 h h2
  go_enter Tryz.func73, Tryz.ntmps73
  go_wp2
  go_ret;exact⟨znM (by rw[He.out]),rfl⟩
theorem zjZ(x y:Nat)(hx:x<18446744073709551616)(hy:y<18446744073709551616)(w:World)(hT:Tab w):
  Calls Tryz.prog 73 #[.int .u64 x, .int .u64 y] w fun e w'=>e= .returned (.int .u64 (Nat.gcd x y:Nat))∧w=w':=by
 by_cases h:x=0∨y=0
 ·exact zi5 x y hx hy h w
 ·exact zjY x y hx hy (by omega) (by omega) w hT
def zoS(g:Nat):List Int→Nat
 |[]=>g
 |x::xs=>zoS (Nat.gcd g x.natAbs) xs
theorem zpp{g y:Nat}(hg:g<18446744073709551616)(hy:y<18446744073709551616):Nat.gcd g y<18446744073709551616:=by
 by_cases h:g=0
 ·subst h;simpa using hy
 ·exact zct (Nat.gcd_le_left _ (by omega)) hg
def zcJ(t:Int):List Int→List Int→Int×Bool
 |x::xs,y::ys=>if okB (x*y)=true then(if okB (t+x*y)=true then zcJ (t+x*y) xs ys else(0,false))else(0,false)
 |_,_=>(t,true)
theorem zj0(t:Int)(ys:List Int):zcJ t [] ys=(t,true):=by cases ys<;>rfl
def dotR(xs ys:List Int):Int×Bool:=if xs.length=ys.length then zcJ 0 xs ys else(0,false)
theorem zoT(xs ys:List Int)(A A':Option Addr)(n n' c c' B:Nat)(w:World)(hn:xs.length=n)(hn':ys.length=n')(hx:AllFit xs)(hy:AllFit ys)(hr:Rd w B A (cellsI xs))(hr':Rd w B A' (cellsI ys))
  (hl:xs.length≤maxLen) (_hl':ys.length≤maxLen):
  Calls Tryz.prog 133 #[.slice A n c, .slice A' n' c'] w fun e w'=>e= .returned (.tuple #[.int .i64 (dotR xs ys).1, .bool (dotR xs ys).2])∧w=w':=by
 by_cases hne:xs.length=ys.length
 ·have hR:dotR xs ys=zcJ 0 xs ys:=by unfold dotR;rw[if_pos hne]
  rw[hR];clear hR;subst hn';rw[←hne];have Hn:=Lh hne;clear hne;subst hn;unfold maxLen at hl;have hq:((xs.length:Int) !=(xs.length:Int))=false:=by simp
  go_enter Tryz.func133, Tryz.ntmps133
  go_wp2
  go_loop [6,18] (fun t i=>∃(k:Nat) (s:Int),k≤xs.length∧i= .int .i64 k∧t= .int .i64 s∧fits s∧Hid (zcJ 0 xs ys=zcJ s (xs.drop k) (ys.drop k))) (fun _ i=>xs.length-(intOf i).toNat)
  case atStart=>exact⟨0,0,zJ _,rfl,rfl,by unfold fits;omega,rfl⟩
  case round=>
   obtain⟨k,s,hk,rfl,rfl,hs,He⟩:=hrel;by_cases hlt:k<xs.length
   ·obtain⟨b,off,x,rfl,hb,hxk,hc,hd,-⟩:=hr.at_ hx hlt;obtain⟨b',off',y,rfl,hb',hyk,hc',hd',-⟩:=hr'.at_ hy (Hn.out▸hlt);have hst:zcJ 0 xs ys=if okB (x*y)=true then(if okB (s+x*y)=true then zcJ (s+x*y) (xs.drop (k+1)) (ys.drop (k+1))else(0,false))else(0,false):=by
     rw[He.out,hd.out,hd'.out];rfl
    have Hst:=Lh hst;clear hst hd hd' He;cases hp:okB (x*y)
    ·have hp':=Lh hp
     go_wp2_with (go_at_call 94;refine(zfB _ _ _ hxk hyk).mono ?_;rintro e w' ⟨rfl,rfl⟩)
     go_ret2;exact⟨by rw[Hst.out,hp'.out];rfl,rfl⟩
    ·have hp':=Lh hp;have hpf:=zbk.1 hp;have Hpv:=Lh (val_yes hpf);cases ha:okB (s+x*y)
     ·have ha':=Lh ha
      go_wp2_with (first|(go_at_call 94;refine(zfB _ _ _ hxk hyk).mono ?_;rintro e w' ⟨rfl,rfl⟩;rw[←Hpv.out])|(go_at_call 134;refine(zeV _ _ _ hs hpf).mono ?_;rintro e w' ⟨rfl,rfl⟩))
      go_ret2;exact⟨by rw[Hst.out,hp'.out,ha'.out];rfl,rfl⟩
     ·have ha':=Lh ha
      go_wp2_with (first|(go_at_call 94;refine(zfB _ _ _ hxk hyk).mono ?_;rintro e w' ⟨rfl,rfl⟩;rw[←Hpv.out])|(go_at_call 134;refine(zeV _ _ _ hs hpf).mono ?_;rintro e w' ⟨rfl,rfl⟩))
      go_round
      case rel=>exact⟨k+1,s+x*y,by omega,by go_num,by rw[←val_yes (zbk.1 ha'.out)],zbk.1 ha'.out,by unfold Hid;rw[Hst.out,hp'.out,ha'.out];rfl⟩
      case measure=>simp[intOf];omega
   ·go_wp2
    go_ret2;have hd:xs.drop k=[]:=zS (by omega)
    have he:zcJ 0 xs ys=(s,true):=by rw[He.out,hd,zj0]
    exact⟨by rw[he];rfl,rfl⟩
 ·have hR:dotR xs ys=(0,false):=by unfold dotR;rw[if_neg hne]
  rw[hR];clear hR;have hq:((xs.length:Int) !=(ys.length:Int))=true:=by simp;omega
  subst hn hn';unfold maxLen at hl _hl'
  go_enter Tryz.func133, Tryz.ntmps133
  go_wp2
  go_ret2;exact⟨rfl,rfl⟩
def zd2(m:Nat)(f:Bool):List Int→Int×Bool
 |[]=>if f=true then((m:Int),true)else(0,false)
 |x::xs=>if x=0 then(0,true)else if f=false then zd2 m f xs else
  zd2 (m/Nat.gcd m x.natAbs*x.natAbs%18446744073709551616) (okB ((m/Nat.gcd m x.natAbs*x.natAbs:Nat):Int)) xs
theorem zos(q n:Nat):Value.int .u64 ((q:Int)*(n:Int)%18446744073709551616)= .int .u64 ((q*n%18446744073709551616:Nat):Int):=by
 rw[Int.natCast_emod,zax];rfl
theorem zpq{q n:Nat}(h:(q:Int)*(n:Int)/18446744073709551616=0):decide ((q:Int)*(n:Int)%18446744073709551616≤9223372036854775807)=okB ((q*n:Nat):Int):=by
 rw[←zax]at h⊢;unfold okB;rw[decide_eq_decide];omega
theorem zpr{q n:Nat}(h:¬(q:Int)*(n:Int)/18446744073709551616=0):false=okB ((q*n:Nat):Int):=by
 rw[←zax]at h;exact b_no (by unfold fits;omega)
theorem zot{P:Nat}(h:0<P):okB (P:Int)=true→0<P%18446744073709551616∧P%18446744073709551616≤9223372036854775807:=by
 intro h'
 have:=zbk.1 h'
 unfold fits at this;omega
def Drawn(w w':World):Prop:=∃d,w'=w.drewN d
theorem Drawn.refl(w:World):Drawn w w:=⟨0,rfl⟩
theorem Drawn.drewN{w w':World}(h:Drawn w w')(n:Nat):Drawn w (w'.drewN n):=by
 obtain⟨d,rfl⟩:=h;exact⟨d+n,World.drewN_drewN _ _ _⟩
theorem Drawn.trans{w w' w'':World}(h:Drawn w w')(h':Drawn w' w''):Drawn w w'':=by
 obtain⟨d,rfl⟩:=h';exact h.drewN d
theorem Drawn.cell{w w':World}(h:Drawn w w')(a:Addr):w'.cell? a=w.cell? a:=by obtain⟨d,rfl⟩:=h;rfl
theorem Drawn.tab{w w':World}(h:Drawn w w')(hT:Tab w):Tab w':=fun j hj=>(h.cell _).trans (hT j hj)
theorem Drawn.rd{w w':World}{B:Nat}{A:Option Addr}{cs:List Value}(h:Drawn w w')(hr:Rd w B A cs):Rd w' B A cs:=by
 rcases hr with hr|⟨b,off,ha,hb,hc⟩
 ·exact .inl hr
 ·exact .inr ⟨b,off,ha,hb,fun j u hu=>(h.cell _).trans (hc j u hu)⟩
theorem Drawn.size{w w':World}(h:Drawn w w'):w'.heap.size=w.heap.size:=by obtain⟨d,rfl⟩:=h;rfl
theorem zbU{P:Program}{f:FuncId}{args:Array Value}{w:World}{n:Nat}{v:Value}
  (h:Calls P f args (w.drewN n) fun e w'=>e= .returned v∧w.drewN n=w'):Calls P f args (w.drewN n) fun e w''=>e= .returned v∧∃m,w''=w.drewN m:=
 h.mono fun _ _ ⟨he,hm⟩=>⟨he,n,hm.symm⟩
theorem zoU(xs:List Int)(A:Option Addr)(n c B:Nat)(w:World)(hn:xs.length=n)(hx:AllFit xs)(hr:Rd w B A (cellsI xs))(hl:xs.length≤maxLen)(hT:Tab w):
  Calls Tryz.prog 51 #[.slice A n c] w fun e w'=>e= .returned (.tuple #[.int .i64 (zd2 1 true xs).1, .bool (zd2 1 true xs).2])∧Drawn w w':=by
 subst hn;unfold maxLen at hl
 go_enter Tryz.func51, Tryz.ntmps51
 go_wp2
 go_loopw [4,5,12] (fun t b i wr=>∃(k:Nat) (m:Nat) (f:Bool),k≤xs.length∧i= .int .i64 k∧t= .int .u64 m∧b= .bool f∧Drawn w wr∧m<18446744073709551616∧Hid (f=true→0<m∧m≤9223372036854775807)∧Hid (zd2 1 true xs=zd2 m f (xs.drop k))) (fun _ _ i _=>xs.length-(intOf i).toNat)
 case atStart=>exact⟨0,1,true,zJ _,rfl,rfl,rfl,Drawn.refl w,by omega,fun _=>by omega,rfl⟩
 case round=>
  obtain⟨k,m,f,hk,rfl,rfl,rfl,hdw,hm,Hf,He⟩:=hrel;by_cases hlt:k<xs.length
  ·obtain⟨b,off,x,rfl,hb,hxk,hc,hd,-⟩:=(hdw.rd hr).at_ hx hlt;have hT':=hdw.tab hT;have hxa:=zk3 hxk;have hst:=hd.out▸He.out;rw[zd2]at hst;by_cases hx0:x=0
   ·subst hx0;have Hst:=Lh hst;clear hst hd He
    go_wp2
    go_ret2;exact⟨by rw[Hst.out];rfl,hdw⟩
   ·have hz:(x==0)=false:=by simpa using hx0
    rw[if_neg hx0]at hst;cases f
    ·rw[if_pos rfl]at hst;have Hst:=Lh hst;clear hst hd He hx0
     go_wp2
     go_roundw
     case rel=>exact⟨k+1,m,false,by omega,by go_num,rfl,rfl,hdw,hm,fun h=>by(cases h),Hst⟩
     case measure=>simp[intOf];omega
    ·rw[if_neg (by simp)]at hst
     have hm0:=(Hf.out rfl).1;have hgl:=zpp hm hxa;have hg0:0<Nat.gcd m x.natAbs:=zbE _ hm0;obtain⟨q,hq⟩:∃q,m/Nat.gcd m x.natAbs=q:=⟨_,rfl⟩;have hqm:q≤m:=by rw[←hq];exact zaN _ _
     have hq0:0<q:=by rw[←hq];exact zcB (Nat.gcd_le_left _ hm0) hg0
     have hP0:0<q*x.natAbs:=zbw hq0 (by omega)
     have hql:q<18446744073709551616:=by omega
     have hqd:(m:Int)/((Nat.gcd m x.natAbs:Nat):Int)=(q:Int):=by rw[←hq];exact(zbJ _ _).symm
     rw[hq]at hst;have Hst:=Lh hst;have hgz:((Nat.gcd m x.natAbs:Nat):Int)≠0:=by omega
     clear hst hd He hq
     go_wp2
     go_quiet ((first|(go_at_call 74;exact zbU (zi4 _ _ hxk))|(go_at_call 73;exact zbU (zjZ _ _ hm hxa _ hT'))|(go_at_call 72;exact zbU (zh6 _ _ hql hxa _))))
     go_wp2
     ·go_roundw
      case rel=>exact⟨k+1,_,_,by omega,by go_num,zos _ _,by rw[zpq (by assumption)],hdw.drewN _,Nat.mod_lt _ (by decide),zot hP0,Hst⟩
      case measure=>simp[intOf];omega
     ·go_roundw
      case rel=>exact⟨k+1,_,_,by omega,by go_num,zos _ _,by rw[zpr (by assumption)],hdw.drewN _,Nat.mod_lt _ (by decide),zot hP0,Hst⟩
      case measure=>simp[intOf];omega
  ·have hd:xs.drop k=[]:=zS (by omega)
   have hst:=hd▸He.out;clear hd;cases f
   ·have Hst:=Lh hst;clear hst He
    go_wp2
    go_ret2;exact⟨by rw[Hst.out];rfl,hdw⟩
   ·have Hst:=Lh hst;have hmm:=(Hf.out rfl).2;clear hst He
    go_wp2
    go_ret2;exact⟨by rw[Hst.out];rfl,hdw⟩
end Go.Proofs.YtpmlljbebdidgaaGreatDoor
