/- Lemmas and walks on which the claims of this seat lean (names and blanks made short by a program): Tr13 Ref4g Ref4i Ref4k OStep Open2 OTwn OLwA OClo OAt OSh1 OSh2. -/
import Derived.Test.YtbliehinagkldaaGreatDoorG01
import Derived.Test.YtbliehinagkldaaGreatDoorG02
import Derived.Deep.CutBlock
import Derived.Lib.ItoaNum
import Derived.Deep.Slices
import Derived.SizedLaws
import Derived.OpenShut
import Derived.Lib.SmallJoins
import Derived.Deep.Strs

set_option linter.all false
set_option maxRecDepth 100000
set_option maxHeartbeats 16000000
open Go.Lib renaming hid → fe6
open List renaming getElem?_cons_zero → fe8, getElem?_cons_succ → fe9, getD_eq_getElem?_getD → ff3, length_append → ff4, drop_succ_cons → ff5, drop_zero → ff6, length_cons → ff8, nil_append → ff9, getElem?_eq_getElem → fg0, length_nil → fg1, length_map → fg5, take_of_length_le → fg7
open Nat renaming le_refl → fh0, zero_le → fh3
open Int renaming toNat_natCast → fh8
open Bool renaming and_eq_true → fh9
namespace Go.Proofs.YtbliehinagkldaaGreatDoor
section
open Go.RowKit
attribute [local go_sem] j4.drew j4.alloc j4.drewN WB.holds
def U9 (h:A9) (ts:List Int):Nat→List Int
 |0=>[0,0,0,0]
 |k+1=>(U9 h ts k).set (X9 h (k:Nat)).t.toNat (max ((U9 h ts k).getD (X9 h (k:Nat)).t.toNat 0) (if ts.getD k 0= -1 then 1048576 else ts.getD k 0))
def aP0 (h:A9) (ts:List Int):List Int:=U9 h ts h.bs.length
theorem az9 (h:A9) (ts:List Int):∀k,(U9 h ts k).length=4
 |0=>rfl
 |k+1=>by simp only[U9,List.length_set];exact az9 h ts k
theorem aM4 {l:List Int} {lo hi:Int} (h0:lo≤0∧0≤hi) (h:∀x∈l,lo≤x∧x≤hi) (i:Nat):lo≤l.getD i 0∧l.getD i 0≤hi:=by
 by_cases hi':i<l.length
 ·rw[ff3,fg0 hi'];exact h _ (List.getElem_mem hi')
 ·rw[ff3,List.getElem?_eq_none (by omega)];exact h0
theorem aS7 {h:A9} {ts:List Int} (ht:∀x∈ts,-1≤x∧x≤1000):∀k,∀x∈U9 h ts k,0≤x∧x≤1048576
 |0,x,hx=>by simp[U9]at hx;omega
 |k+1,x,hx=>by
  have ih:=aS7 (h:=h) ht k
  simp only[U9]at hx
  rcases List.mem_or_eq_of_mem_set hx with hx|rfl
  ·exact ih x hx
  ·have h1:=aM4 (lo:=0) (hi:=1048576) (by omega) ih (X9 h (k:Nat)).t.toNat
   have h2:=aM4 (lo:= -1) (hi:=1000) (by omega) ht k
   split<;>omega
theorem Row.new {H:j5} {base g:Nat} {w:World} {t:TypeId} {xs:List Int} (hw:j4 H w) (hb:base≤w.heap.size) (hg:g=w.heap.size):Row H base (w.alloc (.cells (xs.map (Value.int .i64)).toArray t)) t g xs:=by
 subst hg
 exact⟨heap_alloc_new _ _,hb,hw.D6 (fh0 _)⟩
theorem cy1 (vm vb vt:Value) (h:A9) (ts:List Int) (H:j5) (w:World) (hw:j4 H w) (hh:Hou H vm vb vt h) (hv:Valid h) (hts:ts.length=5) (htb:∀x∈ts,-1≤x∧x≤1000):
 Calls Tryz.prog 101 #[U2 vm vb vt h,arr ts] w (I1 w (arr (aP0 h ts))):=by
 obtain⟨ab,cb,rfl,hb1,hb2⟩:=hh.b.form
 have hb5:=hv.b5
 have ht4:=hv.t4
 match ts,hts,htb with
 |[t0,t1,t2,t3,t4],_,htb=>
 obtain⟨ts,hts⟩:∃ts,Hid (ts=[t0,t1,t2,t3,t4]):=⟨_,rfl⟩
 have hpost:Hid (I1 w (arr (aP0 h [t0,t1,t2,t3,t4]))=I1 w (arr (aP0 h ts))):=by show _=_;rw[hts.out]
 rw[hpost.out]
 rw[←hts.out]at htb
 show Calls Tryz.prog 101 #[U2 _ _ _ h,.agg #[.int .i64 t0,.int .i64 t1,.int .i64 t2,.int .i64 t3,.int .i64 t4]] w (I1 w (arr (aP0 h ts)))
 go_enter Tryz.func101,Tryz.ntmps101
 go_upto_region 2 with(refine u7 rfl _ rfl (Ext.refl hw) ?_;intro B w1 H1 hle hx hB hBw;obtain⟨hc0,hc1,hc2,hc3⟩:=R6 hB;clear hB hw;have hw1:=hx.holds)
 have hsz1:=hx.below.size
 have aG3:Row H1 w.heap.size (((w1.alloc (.cells #[.int .i64 t0,.int .i64 t1,.int .i64 t2,.int .i64 t3,.int .i64 t4] 171)).alloc (.cells #[.int .i64 0,.int .i64 0,.int .i64 0,.int .i64 0] 124)).alloc (.cells #[.int .i64 0,.int .i64 0,.int .i64 0,.int .i64 0] 124)) 171 w1.heap.size ts:=by
  rw[hts.out];exact((Row.new (xs:=[t0,t1,t2,t3,t4]) hw1 hsz1 rfl).alloc _).alloc _
 have ai6:Row H1 w.heap.size (((w1.alloc (.cells #[.int .i64 t0,.int .i64 t1,.int .i64 t2,.int .i64 t3,.int .i64 t4] 171)).alloc (.cells #[.int .i64 0,.int .i64 0,.int .i64 0,.int .i64 0] 124)).alloc (.cells #[.int .i64 0,.int .i64 0,.int .i64 0,.int .i64 0] 124)) 124 (w1.heap.size+1) [0,0,0,0]:=
  (Row.new (xs:=[0,0,0,0]) (hw1.alloc _) (by simp;omega) (by simp)).alloc _
 have ar1:Row H1 w.heap.size (((w1.alloc (.cells #[.int .i64 t0,.int .i64 t1,.int .i64 t2,.int .i64 t3,.int .i64 t4] 171)).alloc (.cells #[.int .i64 0,.int .i64 0,.int .i64 0,.int .i64 0] 124)).alloc (.cells #[.int .i64 0,.int .i64 0,.int .i64 0,.int .i64 0] 124)) 124 (w1.heap.size+1+1) [0,0,0,0]:=
  Row.new (xs:=[0,0,0,0]) ((hw1.alloc _).alloc _) (by simp;omega) (by simp)
 have hxz:=((hx.alloc (.cells #[.int .i64 t0,.int .i64 t1,.int .i64 t2,.int .i64 t3,.int .i64 t4] 171)).alloc (.cells #[.int .i64 0,.int .i64 0,.int .i64 0,.int .i64 0] 124)).alloc (.cells #[.int .i64 0,.int .i64 0,.int .i64 0,.int .i64 0] 124)
 have hn1:w1.heap.size≠w1.heap.size+1+1:=by omega
 have hn2:w1.heap.size+1≠w1.heap.size+1+1:=by omega
 have hn3:w1.heap.size≠w1.heap.size+1:=by omega
 generalize((w1.alloc (.cells #[.int .i64 t0,.int .i64 t1,.int .i64 t2,.int .i64 t3,.int .i64 t4] 171)).alloc (.cells #[.int .i64 0,.int .i64 0,.int .i64 0,.int .i64 0] 124)).alloc (.cells #[.int .i64 0,.int .i64 0,.int .i64 0,.int .i64 0] 124)=wz at*
 generalize w1.heap.size+1+1=ob at*
 generalize w1.heap.size+1=rb at*
 generalize w1.heap.size=tb at*
 have hbm:=hh.b.mono hle
 have htl:Hid (ts.length=5):=by show _=_;rw[hts.out];rfl
 clear hx hw1 hle hsz1
 have hwz:=hxz.holds
 go_wp2_with fail
 go_loopw [6,7,11] (fun _ _ i wr=>∃(k:Nat) (acc tt:List Int),k≤h.bs.length∧i= .int .i64 k∧Hid (acc=U9 h ts k)∧Hid (tt.length=5∧∀i,k≤i→tt.getD i 0=ts.getD i 0)∧Ext w H wr H1∧Row H1 w.heap.size wr 171 tb tt∧Row H1 w.heap.size wr 124 rb [0,0,0,0]∧Row H1 w.heap.size wr 124 ob acc) (fun _ _ i _=>h.bs.length-(intOf i).toNat)
 case atStart=>exact⟨0,_,ts,fh3 _,rfl,rfl,⟨htl.out,fun _ _=>rfl⟩,hxz,aG3,ai6,ar1⟩
 case round=>
  clear hxz hwz aG3 ai6 ar1
  obtain⟨k,acc,tt,hk,rfl,hacc,htt,E5,aG3,ai6,ar1⟩:=hrel
  have hwr:=E5.holds
  by_cases hlk:k<h.bs.length
  ·obtain⟨y,hyk⟩:=At.mk hlk
   obtain⟨bb,ob',cb',he,⟨hy1,hy2,hy3⟩,hct,dM8,hce⟩:=hbm.X9 hyk
   cases he
   have hyb:=List.all_eq_true.1 hv.bs y hyk.mem
   simp only[al7,fh9,within_iff]at hyb
   obtain⟨⟨⟨dN1,er9⟩,_⟩,_⟩:=hyb
   obtain⟨j,hyj⟩:=Int.eq_ofNat_of_zero_le dN1
   have hj4:j<4:=by omega
   replace hyj:=fe6 hyj
   clear dN1 er9
   obtain⟨x,hxk⟩:=At.mk (xs:=tt) (k:=k) (by rw[htt.out.1];omega)
   obtain⟨z,hzj⟩:=At.mk (xs:=acc) (k:=j) (by rw[hacc.out,az9];exact hj4)
   have dN2:Hid (x=ts.getD k 0):=by show _=_;rw[←htt.out.2 k (fh0 _),hxk.getD]
   have hxb: -1≤x∧x≤1000:=by rw[dN2.out];exact aM4 (by omega) htb k
   have hzb:0≤z∧z≤1048576:=aS7 htb k z (by rw[←hacc.out];exact hzj.mem)
   have hsucc:∀v,v=max z (if x= -1 then 1048576 else x)→Hid (acc.set j v=U9 h ts (k+1)):=fun v hv=>by
    show _=_
    simp only[U9]
    rw[hyk.X9,hyj.out,fh8,←hacc.out,hzj.getD,←dN2.out,hv]
   go_upto_region 5 with fail
   have dy2:Row H1 w.heap.size (wr.alloc (.cells #[.int .i64 y.t,.int .i64 y.h,.int .i64 y.e] 127)) 127 wr.heap.size [y.t,y.h,y.e]:=Row.new (xs:=[y.t,y.h,y.e]) hwr E5.below.size rfl
   replace E5:=E5.alloc (.cells #[.int .i64 y.t,.int .i64 y.h,.int .i64 y.e] 127)
   have es3:=aG3.lt
   have es4:=ar1.lt
   replace aG3:=aG3.alloc (.cells #[.int .i64 y.t,.int .i64 y.h,.int .i64 y.e] 127)
   replace ai6:=ai6.alloc (.cells #[.int .i64 y.t,.int .i64 y.h,.int .i64 y.e] 127)
   replace ar1:=ar1.alloc (.cells #[.int .i64 y.t,.int .i64 y.h,.int .i64 y.e] 127)
   have hnX:tb≠wr.heap.size:=by omega
   have eS6:ob≠wr.heap.size:=by omega
   clear hwr es3 es4
   generalize wr.alloc (.cells #[.int .i64 y.t,.int .i64 y.h,.int .i64 y.e] 127)=wx at*
   generalize wr.heap.size=cx at*
   have hcX:=dy2.cell (i:=0) (x:=y.t) rfl
   rw[hyj.out]at hcX
   have hcT:=aG3.cell hxk
   have hfT:=aG3.fz k
   have hcO:=ar1.cell hzj
   have hfO:=ar1.fz j
   by_cases hx1:x= -1
   ·subst hx1
    go_upto_region 7 with fail
    have dN3:=dy2.other (a:=⟨tb,k,none⟩) hnX (.int .i64 1048576)
    have bt2:=ar1.other (a:=⟨tb,k,none⟩) hn1 (.int .i64 1048576)
    have dN4:=ai6.other (a:=⟨tb,k,none⟩) hn3 (.int .i64 1048576)
    have cZ8:=aG3.set k 1048576
    have es5:=E5.setCell (a:=⟨tb,k,none⟩) aG3.base aG3.free (.int .i64 1048576)
    have hdX:=dN3.cell (i:=0) (x:=y.t) rfl
    rw[hyj.out]at hdX
    have D9:=cZ8.cell (i:=k) (x:=1048576) (by show _=_;rw[List.getElem?_set_self hxk.lt])
    have hdO:=bt2.cell hzj
    have hgO:=bt2.fz j
    generalize wx.setCell ⟨tb,k,none⟩ (.int .i64 1048576)=wy at*
    go_region
    all_goals
     go_wp2_with fail
     go_roundw
     case rel=>exact⟨k+1,acc.set j _,tt.set k 1048576,by omega,by go_num,(hsucc _ (by rw[if_pos rfl];split<;>omega)).out,⟨by rw[List.length_set];exact htt.out.1,fun i hi=>by rw[ff3,List.getElem?_set_ne (by omega),←ff3];exact htt.out.2 i (by omega)⟩,(es5.setCell (a:=⟨ob,j,none⟩) bt2.base bt2.free _).drew,(cZ8.other (a:=⟨ob,j,none⟩) (Ne.symm hn1) _).drew,(dN4.other (a:=⟨ob,j,none⟩) (Ne.symm hn2) _).drew,(bt2.set j _).drew⟩
     case measure=>simp[intOf];omega
   ·have hx2:(x== -1)=false:=by simpa using hx1
    replace hx1:=fe6 hx1
    go_upto_region 7 with fail
    go_region
    all_goals
     go_wp2_with fail
     go_roundw
     case rel=>exact⟨k+1,acc.set j _,tt,by omega,by go_num,(hsucc _ (by rw[if_neg hx1.out];split<;>omega)).out,⟨htt.out.1,fun i hi=>htt.out.2 i (by omega)⟩,(E5.setCell (a:=⟨ob,j,none⟩) ar1.base ar1.free _).drew,(aG3.other (a:=⟨ob,j,none⟩) (Ne.symm hn1) _).drew,(ai6.other (a:=⟨ob,j,none⟩) (Ne.symm hn2) _).drew,(ar1.set j _).drew⟩
     case measure=>simp[intOf];omega
  ·have hl4:acc.length=4:=by rw[hacc.out,az9]
   match acc,hl4,hacc,ar1 with
   |[a0,a1,a2,a3],_,hacc,ar1=>
    have dn5:Hid ([a0,a1,a2,a3]=aP0 h ts):=by
     show _=_
     rw[hacc.out,show k=h.bs.length by omega];rfl
    clear hacc
    have c0:=ar1.cell (i:=0) (x:=a0) rfl
    have c1:=ar1.cell (i:=1) (x:=a1) rfl
    have c2:=ar1.cell (i:=2) (x:=a2) rfl
    have c3:=ar1.cell (i:=3) (x:=a3) rfl
    have d0:=ai6.cell (i:=0) (x:=0) rfl
    have d1:=ai6.cell (i:=1) (x:=0) rfl
    have d2:=ai6.cell (i:=2) (x:=0) rfl
    have d3:=ai6.cell (i:=3) (x:=0) rfl
    have f0:=ai6.fz 0
    have f1:=ai6.fz 1
    have f2:=ai6.fz 2
    have f3:=ai6.fz 3
    go_wp2_with fail
    have hr:=(((ai6.set 0 a0).set 1 a1).set 2 a2).set 3 a3
    refine bodyPost_ret (results_cell_row rfl _ _ rb 124 _ (0,0) _ rfl hr.at_ Tryz.underlying124 rfl (by kernel_rfl)) rfl ?_
    refine⟨?_, ?_⟩
    ·rw[←dn5.out];rfl
    ·exact((((E5.setCell (a:=⟨rb,0,none⟩) ai6.base ai6.free _).setCell (a:=⟨rb,1,none⟩) ai6.base ai6.free _).setCell (a:=⟨rb,2,none⟩) ai6.base ai6.free _).setCell (a:=⟨rb,3,none⟩) ai6.base ai6.free _).below
end
section
theorem dn6 (h:A9) (i:Nat):X9 h (i:Nat)=h.bs.getD i default:=rfl
theorem ch1 {h:A9} (hv:Valid h) {i:Nat} (hi:i<h.bs.length):0≤(X9 h (i:Nat)).t∧(X9 h (i:Nat)).t<h.ts.length:=by
 obtain⟨y,hy⟩:=At.mk hi
 have:=List.all_eq_true.1 hv.bs y hy.mem
 simp only[al7,fh9,within_iff]at this
 rw[hy.X9];omega
theorem aJ7 {h:A9} (hv:Valid h) (t:Nat):0≤h.ts.getD t 0∧h.ts.getD t 0≤99:=
 aM4 (by omega) (fun x hx=>by have:=List.all_eq_true.1 hv.ts x hx;exact within_iff.1 this) t
theorem cM1 (a b c:Int) (hb: -1≤b) (hc:c≤99) (hc0:0≤c):decide (c<max a (if b= -1 then 1048576 else b))=(decide (c<a) || (decide (b<0) || decide (c<b))):=by
 rw[Bool.eq_iff_iff]
 simp only[decide_eq_true_eq,Bool.or_eq_true]
 split<;>omega
theorem bt3 {h:A9} (hv:Valid h) {ts:List Int} (hts:∀x∈ts,-1≤x∧x≤1000) {t:Nat} (ht:t<4):∀k,k≤h.bs.length→decide (h.ts.getD t 0<(U9 h ts k).getD t 0)=aJ3 h ts t k
 |0,_=>by
  have h1:=aJ7 hv t
  have h2:(U9 h ts 0).getD t 0=0:=by
   simp only[U9]
   match t,ht with
   |0,_=>rfl
   |1,_=>rfl
   |2,_=>rfl
   |3,_=>rfl
  rw[h2,decide_eq_false (by omega)]
  simp[aJ3]
 |k+1,hk=>by
  have ih:=bt3 hv hts ht k (by omega)
  have hb:=ch1 hv (i:=k) (by omega)
  have h1:=aJ7 hv t
  have h2:=aM4 (lo:= -1) (hi:=1000) (by omega) hts k
  have hl:aJ3 h ts t (k+1)=(aJ3 h ts t k || (((X9 h (k:Nat)).t==(t:Int))&&(decide (ts.getD k 0<0) || decide (h.ts.getD t 0<ts.getD k 0)))):=by
   unfold aJ3
   rw[List.range_succ,List.any_append]
   simp[dn6]
  rw[hl,←ih]
  have hlen:=az9 h ts k
  have hval:(U9 h ts (k+1)).getD t 0=if(X9 h (k:Nat)).t=(t:Int)then max ((U9 h ts k).getD t 0) (if ts.getD k 0= -1 then 1048576 else ts.getD k 0)else(U9 h ts k).getD t 0:=by
   simp only[U9]
   by_cases e:(X9 h (k:Nat)).t=(t:Int)
   ·rw[if_pos e,e,fh8,ff3,List.getElem?_set_self (by omega)];rfl
   ·rw[if_neg e,ff3,List.getElem?_set_ne (by omega),←ff3]
  rw[hval]
  by_cases e:(X9 h (k:Nat)).t=(t:Int)
  ·have e2:((X9 h (k:Nat)).t==(t:Int))=true:=by simpa using e
   rw[if_pos e,e2,Bool.true_and]
   exact cM1 _ _ _ h2.1 h1.2 h1.1
  ·have e2:((X9 h (k:Nat)).t==(t:Int))=false:=by simpa using e
   rw[if_neg e,e2,Bool.false_and,Bool.or_false]
theorem cl4 {h:A9} {a b:List Int} {t k:Nat} (e:∀i,i<k→a.getD i 0=b.getD i 0):aJ3 h a t k=aJ3 h b t k:=by
 unfold aJ3
 rw[Bool.eq_iff_iff,List.any_eq_true,List.any_eq_true]
 constructor
 ·rintro⟨i,hi,hx⟩
  exact⟨i,hi,by rw[←e i (List.mem_range.1 hi)];exact hx⟩
 ·rintro⟨i,hi,hx⟩
  exact⟨i,hi,by rw[e i (List.mem_range.1 hi)];exact hx⟩
def M3 (h:A9) (p:List (List Int)):List Int:=aP0 h (aV5 h p)
theorem bz6 {h:A9} (hv:Valid h) {p:List (List Int)} (hp:aa8 h p=true):∀x∈aV5 h p,-1≤x∧x≤1000:=by
 rw[bT7 hv.b5 hp]
 intro x hx
 rcases List.mem_append.1 hx with hx|hx
 ·exact cK6 hv hp x hx
 ·rw[List.eq_of_mem_replicate hx];omega
theorem ah2 (h:A9) (p:List (List Int)):(M3 h p).length=4:=az9 _ _ _
theorem aB5 {h:A9} (hv:Valid h) {p:List (List Int)} (hp:aa8 h p=true):∀x∈M3 h p,0≤x∧x≤1048576:=aS7 (bz6 hv hp) _
theorem cZ9 {h:A9} (hv:Valid h) {p:List (List Int)} (hp:aa8 h p=true) {i:Nat} (hi:i<h.bs.length):(aV5 h p).getD i 0=(aw3 h p).getD i 0:=by
 rw[bT7 hv.b5 hp,ff3,List.getElem?_append_left (by rw[bC0];exact hi),←ff3]
theorem aZ7 {h:A9} (hv:Valid h) {p:List (List Int)} (hp:aa8 h p=true):aw4 h (M3 h p) h.ts.length=ad4 h p:=by
 unfold aw4 ad4 aG9
 congr 1
 refine List.filter_congr fun t ht=> ?_
 have:=hv.t4
 have:=List.mem_range.1 ht
 rw[dx7,M3,aP0,bt3 hv (bz6 hv hp) (by omega) _ (fh0 _)]
 exact cl4 fun i hi=>cZ9 hv hp hi
theorem cM2 {l:List Int} (hl:∀x∈l,0≤x∧x≤3) (hs:l.Pairwise (·<·)):af3 (ub l)=l:=by
 have h1:∀x∈l,(0:Int)≤x:=fun x hx=>(hl x hx).1
 unfold af3 aJ6
 have e:(List.range 4).filter (fun i=>(ub l).testBit i)=(List.range 4).filter (fun i:Nat=>decide ((i:Int)∈l)):=List.filter_congr fun i _=>aI2 h1 i
 rw[e]
 have hnd:(((List.range 4).filter (fun i:Nat=>decide ((i:Int)∈l))).map Int.ofNat).Pairwise (·<·):=by
  rw[List.pairwise_map]
  refine List.Pairwise.imp ?_ ((List.pairwise_lt_range (n:=4)).filter _)
  intro a b hab
  exact Int.ofNat_lt.2 hab
 have hmem:∀x,x∈((List.range 4).filter (fun i:Nat=>decide ((i:Int)∈l))).map Int.ofNat↔x∈l:=by
  intro x
  simp only[List.mem_map,List.mem_filter,List.mem_range,decide_eq_true_eq]
  constructor
  ·rintro⟨i,⟨_,hi⟩,rfl⟩;exact hi
  ·intro hx
   have:=hl x hx
   exact⟨x.toNat,⟨by omega,by rw[Int.toNat_of_nonneg this.1];exact hx⟩,by simp[Int.toNat_of_nonneg this.1]⟩
 have hperm:(((List.range 4).filter (fun i:Nat=>decide ((i:Int)∈l))).map Int.ofNat).Perm l:=by
  refine(List.perm_ext_iff_of_nodup ?_ ?_).2 hmem
  ·exact hnd.imp (fun h=>by omega)
  ·exact hs.imp (fun h=>by omega)
 exact hperm.eq_of_pairwise (fun a b _ _ h1 h2=>by omega) hnd hs
theorem cf4 (h:A9) (r:List Int) (k:Nat):(aw4 h r k).Pairwise (·<·):=by
 unfold aw4
 rw[List.pairwise_map]
 refine List.Pairwise.imp ?_ ((List.pairwise_lt_range (n:=k)).filter _)
 intro a b hab
 exact Int.ofNat_lt.2 hab
end
section
open Go.RowKit
attribute [local go_sem] j4.drew j4.alloc j4.drewN WB.holds
theorem bt4 (vm vb vt:Value) (h:A9) (r:List Int) (H:j5) (w:World) (hw:j4 H w) (hh:Hou H vm vb vt h) (ht4:h.ts.length≤4) (hl:r.length=4) (hr:∀x∈r,0≤x∧x≤1048576):
 Calls Tryz.prog 67 #[U2 vm vb vt h,arr r] w (I1 w (.int .u64 (ub (aw4 h r h.ts.length):Nat))):=by
 match r,hl,hr with
 |[r0,r1,r2,r3],_,hr=>
  have b0:=hr r0 (by simp);have b1:=hr r1 (by simp);have b2:=hr r2 (by simp);have b3:=hr r3 (by simp)
  exact cZ3 vm vb vt h r0 r1 r2 r3 H w hw hh ht4 ⟨by omega,by omega,by omega,by omega⟩
end
section
open Go.RowKit
attribute [local go_sem] j4.drew j4.alloc j4.drewN WB.holds
def am2 (h:A9):Int:=if valid h then(Y7 h (Q3 h (-1)):Nat)else 0
end
section
open Go.RowKit
attribute [local go_sem] j4.drew j4.alloc j4.drewN WB.holds
def bz7 (h:A9) (t:Int):Int:=if valid h&&within t 0 ((h.ts.length:Int)-1)then(if 99-h.ts.getD t.toNat 0<aM2 h t then 3 else 0)else bG8 (valid h) (within t 0 ((h.ts.length:Int)-1))
def bz8 (h:A9) (t:Int):Int:=if valid h&&within t 0 ((h.ts.length:Int)-1)then(if 99-h.ts.getD t.toNat 0<aM2 h t then 0 else aM2 h t)else 0
end
section
open Go.RowKit
attribute [local go_sem] j4.drew j4.alloc j4.drewN WB.holds
def bi3 (h:A9):Int:=if valid h then(if aB1 h<0 then 3 else 0)else 40
def bi4 (h:A9):Int:=if valid h then(if aB1 h<0 then 0 else aB1 h)else 0
end
section
open Go.RowKit
attribute [local go_sem] j4.drew j4.alloc j4.drewN WB.holds
def ch2 (h:A9):List Int:=if valid h then toldOf h else []
def cM3 (h:A9):Bool:=valid h&&decide ((toldOf h).length=0)
end
section
def G6 (n:Int):ByteArray:=⟨(Lib.itoa n).toArray⟩
def wOk:ByteArray:=⟨#[111,107]⟩
def wNo:ByteArray:=⟨#[110,111]⟩
def dy3:ByteArray:=⟨#[110,111,110,101]⟩
def at0:ByteArray:=⟨#[119,114,111,110,103]⟩
def ai7:ByteArray:=⟨#[119,104,97,116]⟩
def bH2:ByteArray:=⟨#[110,111,116,104,105,110,103]⟩
def ae4 (b:Bool):ByteArray:=if b then wOk else wNo
def at1 (n e:Int):ByteArray:=if e=0 then G6 n else if e=3 then dy3 else at0
def as3 (l:List Int) (e:Int):ByteArray:=if e≠0 then at1 0 e else if l=[]then bH2 else J9 (l.map G6)
def U6 (t:D5) (w:ByteArray) (a:List Int):ByteArray:=
 if w=aZ3 then G6 (if cM3 t.h then 1 else 0)
 else if w=aI3 then at1 (am2 t.h) (aq2 (valid t.h))
 else if w=aZ4 then as3 (ch2 t.h) (aq2 (valid t.h))
 else if w=aZ5 then at1 (bz8 t.h (nth a 0)) (bz7 t.h (nth a 0))
 else if w=aO9 then at1 (bi4 t.h) (bi3 t.h)
 else if w=bs8 then at1 (newR t.s) (aa9 t.s true)
 else if w=aI4 then as3 (az7 t.s) (ax6 (Y5 t.s))
 else if w=aN6 then as3 [az0 t.s (nth a 0),az1 t.s (nth a 0)] (aa9 t.s (as8 t.s (nth a 0)))
 else at1 (aS6 t.s) (aS5 t.s)
def at5 (written:List F7) (n:Int):Bool:=decide (0≤n)&&decide (n<(written.length:Int))&&decide ((written.getD n.toNat E9).kind=1)
def ao6 (now:List F7) (x:F7):List F7:=now.set x.of.toNat (if x.kind=5 then⟨1,0,x.word,x.text,x.nums⟩else E9)
def aP1 (was is:List Bool) (k:Nat):List UInt8:=(List.range k).flatMap fun i=>if is.getD i false=was.getD i false then []else [32]++C8 (G6 (i:Int))++[58]++C8 (ae4 (is.getD i false))
theorem cy2 (was is:List Bool) (k:Nat):aP1 was is (k+1)=aP1 was is k++(if is.getD k false=was.getD k false then []else [32]++C8 (G6 (k:Int))++[58]++C8 (ae4 (is.getD k false))):=by
 unfold aP1;rw[List.range_succ,List.flatMap_append];simp
def dy4 (was is:List Bool):ByteArray:=J8 (C8 wOk++aP1 was is is.length)
def ap9 (t:D5) (written now:List F7) (x:F7):ByteArray:=
 if x.kind=0 then ai7
 else if x.kind=1 then ae4 (changed (Z5 t now) x.word x.nums).2
 else if x.kind=2 then U6 (Z5 t now) x.word x.nums
 else if x.kind=3 then(if 0≤x.of∧x.of≤(now.length:Int)then U6 (Z5 t (now.take x.of.toNat)) x.word x.nums else at0)
 else if x.kind=4 then(if at5 written x.of then(if(now.getD x.of.toNat E9).kind=1 then(now.getD x.of.toNat E9).text else au8)else at0)
 else if at5 written x.of then dy4 (O3 t now) (O3 t (ao6 now x))else wNo
def ak4 (written now:List F7) (x:F7):List F7:=
 if x.kind=1 then now++[x]
 else if(x.kind=5∨x.kind=6)∧at5 written x.of=true then ao6 now x++[E9]
 else now++[E9]
structure dn7 where
 ans:List ByteArray
 written:List F7
 now:List F7
def bz9 (t:D5) (d:dn7) (s:ByteArray):dn7:=⟨d.ans++[ap9 t d.written d.now (A8 s)],d.written++[A8 s],ak4 d.written d.now (A8 s)⟩
def M6 (t:D5) (l:List ByteArray):dn7:=l.foldl (bz9 t) ⟨[],[],[]⟩
theorem aP2 (t:D5) (l:List ByteArray) (s:ByteArray):M6 t (l++[s])=bz9 t (M6 t l) s:=by unfold M6;rw[List.foldl_append];rfl
def bf0 (now:List F7) (h:List Bool) (k:Nat):List ByteArray:=((List.range k).filter fun i=>h.getD i false).map fun i=>(now.getD i E9).text
def bK9 (t:D5) (now:List F7):List ByteArray:=bf0 now (O3 t now) now.length
def aJ8 (t:D5) (l:List ByteArray):Int:=if F6 t then(if 24<l.length then 2 else 0)else 120
def cM4:D5:=⟨⟨[],[],[],0⟩,⟨[],[],[],0⟩⟩
def Y1 (t:D5) (l:List ByteArray):List ByteArray:=if aJ8 t l=0 then(M6 t l).ans else []
def V5 (t:D5) (l:List ByteArray):D5:=if aJ8 t l=0 then Z5 t (M6 t l).now else cM4
def O0 (t:D5) (l:List ByteArray):List ByteArray:=if aJ8 t l=0 then bK9 t (M6 t l).now else []
theorem bC9 (written now:List F7) (x:F7):(ak4 written now x).length=now.length+1:=by
 unfold ak4
 split
 ·simp
 ·split
  ·simp[ao6]
  ·simp
theorem ax9 (t:D5) (l:List ByteArray):(M6 t l).ans.length=l.length∧(M6 t l).written.length=l.length∧(M6 t l).now.length=l.length:=by
 have key:∀r:List ByteArray,(M6 t r.reverse).ans.length=r.length∧(M6 t r.reverse).written.length=r.length∧(M6 t r.reverse).now.length=r.length:=fun r=>by
  induction r with
  |nil=>exact⟨rfl,rfl,rfl⟩
  |cons s r ih=>
   rw[List.reverse_cons,aP2]
   unfold bz9
   simp only[ff4,ff8,fg1,bC9]
   omega
 have:=key l.reverse
 rwa [List.reverse_reverse,List.length_reverse]at this
end
section
open Go.RowKit Go.ChangeShapes Go.WideShapes Go.Deep
def ad6 (w:World):j5:=fun b=>w.heap[b]?
theorem bD0 {α:Type} [Enc α] {H:j5} (L:List Value) (f:Nat→α):∀(n:Nat),(∀i,i<n→∃cs,Enc.rep H (f i) cs∧∀j,j<Enc.sz α→L[i*Enc.sz α+j]? =cs[j]?)→P6 H ((List.range n).map f) (L.take (n*Enc.sz α))
 |0,_=>by simp[P6]
 |n+1,h=>by
  obtain⟨cs,hr,hj⟩:=h n (by omega)
  have hl:=Enc.len hr
  have e:L.take ((n+1)*Enc.sz α)=L.take (n*Enc.sz α)++cs:=by
   rw[Nat.add_mul,Nat.one_mul,List.take_add]
   congr 1
   apply List.ext_getElem?
   intro j
   rw[List.getElem?_take]
   by_cases hjs:j<Enc.sz α
   ·rw[if_pos hjs,List.getElem?_drop]
    exact hj j hjs
   ·rw[if_neg hjs,List.getElem?_eq_none (by omega)]
  rw[List.range_succ,List.map_append,e]
  exact P6.append (bD0 L f n fun i hi=>h i (by omega)) (P6.single hr)
theorem bf1 {H:Type} {P:Program} {e:TypeId}:∀{l:List (DataW H)} {i:Nat} {d:DataW H},l[i]? =some d→∀n∈d.weights P e,n∈DataW.weightsAll P e l
 |d0::l,0,d,h,n,hn=>by
  simp only[fe8,Option.some.injEq]at h
  subst h
  simp only[DataW.weightsAll,List.mem_append]
  exact Or.inl hn
 |d0::l,i+1,d,h,n,hn=>by
  simp only[fe9]at h
  simp only[DataW.weightsAll,List.mem_append]
  exact Or.inr (bf1 h n hn)
 |[],_,_,h,_,_=>by simp at h
theorem cy3 {w:World} {a:Addr} {v:Value} (h:w.cell? a=some v):∃b o cur t fr,a=⟨b,o,none⟩∧w.heap[b]? =some (.cells cur t fr):=by
 obtain⟨b,o,s⟩:=a
 unfold World.cell? at h
 split at h
 ·next c t fr hb=>
  split at h
  ·cases h
  ·next hs=>
   cases s with
   |none=>exact⟨b,o,_,_,_,rfl,hb⟩
   |some _=>simp at hs
 ·cases h
theorem Sl.opened {α:Type} [Enc α] [Inhabited α] {H:Type} {enc:TypeId × Value→H} {P:Program} {w:World} {sp:Nat→Bool} {hd:Bool} {t e:TypeId} {n:Nat} {v:Value} {y:DataW H × List MemPlace}
 (ht:P.underlying t=some (.slice e)) (hc:P.cellsOf e=Enc.sz α) (hp:0<Enc.sz α) (hb:P.bytesOf e=Enc.M4 α)
 (el:∀(n:Nat) (cs:List Value) (y:DataW H × List MemPlace),DataW.trod enc P w 0 sp hd n e cs=some y→(∀k∈y.1.weights P e,k≤reachBytes)→∃x:α,Enc.rep (ad6 w) x cs)
 (h:DataW.trod enc P w 0 sp hd n t [v]=some y) (hw:∀k∈y.1.weights P t,k≤reachBytes):∃xs:List α,Sl (ad6 w) v xs:=by
 rcases open_slice ht h with⟨hcs,_⟩|⟨a,len,cap,m,n',D,Pl,hcs,_,hl,hm,hmm,rfl,hx⟩
 ·simp at hcs
  subst hcs
  exact⟨[],Sl.Y9 _⟩
 ·simp at hcs
  subst hcs
  have hlm:len≤m:=by rw[hmm];split<;>omega
  simp only[DataW.weights,ht,List.mem_cons,List.mem_append]at hw
  have h0:=hw _ (Or.inl rfl)
  simp only[fg5,List.length_range,hb]at h0
  have hby:len*Enc.M4 α≤140737488355328:=by
   have h1:len*Enc.M4 α≤(len+(m-len))*Enc.M4 α:=Nat.mul_le_mul_right _ (by omega)
   have h2:reachBytes≤140737488355328:=by decide
   omega
  have hcap:cap≤9223372036854775807:=by simp only[maxLen]at hm;omega
  by_cases hz:len=0
  ·subst hz
   exact⟨[],Sl.nil _ _ hcap⟩
  ·obtain⟨cs0,hc0,_⟩:=hx 0 (by omega)
   obtain⟨_,hl0,hg0⟩:=World.cells?_some hc0
   have hcell0:=hg0 0 (by omega)
   rw[fg0 (by omega)]at hcell0
   obtain⟨b,o,cur,tt,fr,ha,hrow⟩:=cy3 hcell0
   have ha':a=⟨b,o,none⟩:=by simpa [Addr.add]using ha
   subst ha'
   have hat:∀i,i<len→∃cs,(∃x:α,Enc.rep (ad6 w) x cs)∧cs.length=Enc.sz α∧∀j,j<Enc.sz α→cur[o+i*Enc.sz α+j]? =cs[j]? :=fun i hi=>by
    obtain⟨cs,hc1,ht1⟩:=hx i (by omega)
    obtain⟨_,hl1,hg1⟩:=World.cells?_some hc1
    rw[hc]at hl1 hg1
    refine⟨cs,el _ _ _ ht1 (fun k hk=>hw k (Or.inr (Or.inl (bf1 (i:=i) (by simp[hi]) k hk)))),hl1,fun j hj=> ?_⟩
    have:=hg1 j hj
    rw[Addr.add_lit,Addr.add_lit,cell_of_row w b _ cur tt fr hrow]at this
    exact this
   obtain⟨f,hf⟩:=choose_lt (α:=α) (p:=fun i x=>∃cs,Enc.rep (ad6 w) x cs∧cs.length=Enc.sz α∧∀j,j<Enc.sz α→cur[o+i*Enc.sz α+j]? =cs[j]?) (fun i hi=>by
    obtain⟨cs,⟨x,hx⟩,hl,hj⟩:=hat i hi
    exact⟨x,cs,hx,hl,hj⟩)
   have hsz:o+len*Enc.sz α≤cur.size:=by
    obtain⟨cs,_,hl1,hj1⟩:=hf (len-1) (by omega)
    have h1:=hj1 (Enc.sz α-1) (by omega)
    rw[fg0 (by omega)]at h1
    have h2:=(Array.getElem?_eq_some_iff.1 h1).1
    have h3:(len-1)*Enc.sz α+Enc.sz α=len*Enc.sz α:=by
     rw[show len*Enc.sz α=(len-1+1)*Enc.sz α by rw[Nat.sub_add_cancel (by omega)],Nat.add_mul,Nat.one_mul]
    omega
   refine⟨(List.range len).map f,some ⟨b,o,none⟩,cap,by simp,by simpa using hl,hcap,by simpa using hby,.inr ⟨b,o,cur,tt,fr,rfl,hrow,by simpa using hsz, ?_⟩⟩
   rw[fg5,List.length_range]
   refine bD0 _ f len fun i hi=> ?_
   obtain⟨cs,hr,_,hj⟩:=hf i hi
   refine⟨cs,hr,fun j hjj=> ?_⟩
   rw[List.getElem?_drop,←hj j hjj,Array.getElem?_toList,←Nat.add_assoc]
end
section
open Go.RowKit Go.ChangeShapes Go.WideShapes Go.Deep Go.Joins
section
variable {H:Type} {enc:TypeId × Value→H} {W:World} {sp:Nat→Bool} {hd:Bool}
theorem bt5:Tryz.prog.cellsOf 3=1:=by kernel_rfl
theorem ah7 {n:Int} (h:(Lit.int .i64 n).wf=true):K8 n:=by
 have: -9223372036854775808≤n∧n≤9223372036854775807:=by simpa [Lit.wf,IntKind.min,IntKind.max,IntKind.signed,IntKind.bits]using h
 exact this
theorem dN6 (n:Nat) (cs:List Value) (y:DataW H × List MemPlace) (h:DataW.trod enc Tryz.prog W 0 sp hd n 3 cs=some y):∃x:Int,Enc.rep (ad6 W) x cs:=by
 obtain⟨k,rfl,_,hk⟩:=DataW.trod_int Tryz.underlying3 h
 exact⟨k,rfl,ah7 hk⟩
theorem three {α:Type} {l:List α} (h:l.length=3):∃a b c,l=[a,b,c]:=by
 match l,h with
 |[a,b,c],_=>exact⟨a,b,c,rfl⟩
theorem dG6 (n:Nat) (cs:List Value) (y:DataW H × List MemPlace) (h:DataW.trod enc Tryz.prog W 0 sp hd n 94 cs=some y):∃x:ah4,Enc.rep (ad6 W) x cs:=by
 obtain⟨y0,y1,y2,m,_,hl,h0,h1,h2⟩:=trod_struct3 Tryz.underlying94 h
 obtain⟨a,b,c,rfl⟩:=three (hl.trans (by kernel_rfl))
 simp only[bt5,ff6,ff5,List.take_succ_cons,List.take_zero]at h0 h1 h2
 obtain⟨k0,e0,_,w0⟩:=DataW.trod_int Tryz.underlying3 h0
 obtain⟨k1,e1,_,w1⟩:=DataW.trod_int Tryz.underlying3 h1
 obtain⟨k2,e2,_,w2⟩:=DataW.trod_int Tryz.underlying3 h2
 simp at e0 e1 e2
 subst e0;subst e1;subst e2
 exact⟨⟨k0,k1,k2⟩,show bT2 _ _ from⟨rfl,ah7 w0,ah7 w1,ah7 w2⟩⟩
theorem dG7 (n:Nat) (cs:List Value) (y:DataW H × List MemPlace) (h:DataW.trod enc Tryz.prog W 0 sp hd n 127 cs=some y):∃x:ar8,Enc.rep (ad6 W) x cs:=by
 obtain⟨y0,y1,y2,m,_,hl,h0,h1,h2⟩:=trod_struct3 Tryz.underlying127 h
 obtain⟨a,b,c,rfl⟩:=three (hl.trans (by kernel_rfl))
 simp only[bt5,ff6,ff5,List.take_succ_cons,List.take_zero]at h0 h1 h2
 obtain⟨k0,e0,_,w0⟩:=DataW.trod_int Tryz.underlying3 h0
 obtain⟨k1,e1,_,w1⟩:=DataW.trod_int Tryz.underlying3 h1
 obtain⟨k2,e2,_,w2⟩:=DataW.trod_int Tryz.underlying3 h2
 simp at e0 e1 e2
 subst e0;subst e1;subst e2
 exact⟨⟨k0,k1,k2⟩,show bT3 _ _ from⟨rfl,ah7 w0,ah7 w1,ah7 w2⟩⟩
theorem bd4 {n:Nat} {v:Value} {y:DataW H × List MemPlace} (h:DataW.trod enc Tryz.prog W 0 sp hd n 24 [v]=some y) (hw:∀k∈y.1.weights Tryz.prog 24,k≤reachBytes):∃xs:List Int,Sl (ad6 W) v xs:=
 Sl.opened Tryz.underlying24 (by kernel_rfl) (by decide) (by kernel_rfl) (fun n cs y h _=>dN6 n cs y h) h hw
theorem cl5 {n:Nat} {v:Value} {y:DataW H × List MemPlace} (h:DataW.trod enc Tryz.prog W 0 sp hd n 22 [v]=some y) (hw:∀k∈y.1.weights Tryz.prog 22,k≤reachBytes):∃xs:List ah4,Sl (ad6 W) v xs:=
 Sl.opened Tryz.underlying22 (by kernel_rfl) (by decide) (by kernel_rfl) (fun n cs y h _=>dG6 n cs y h) h hw
theorem cl6 {n:Nat} {v:Value} {y:DataW H × List MemPlace} (h:DataW.trod enc Tryz.prog W 0 sp hd n 23 [v]=some y) (hw:∀k∈y.1.weights Tryz.prog 23,k≤reachBytes):∃xs:List ar8,Sl (ad6 W) v xs:=
 Sl.opened Tryz.underlying23 (by kernel_rfl) (by decide) (by kernel_rfl) (fun n cs y h _=>dG7 n cs y h) h hw
theorem dG8 (n:Nat) (cs:List Value) (y:DataW H × List MemPlace) (h:DataW.trod enc Tryz.prog W 0 sp hd n 24 cs=some y) (hw:∀k∈y.1.weights Tryz.prog 24,k≤reachBytes):∃x:List Int,Enc.rep (ad6 W) x cs:=by
 obtain⟨a,l,c,rfl⟩:=slice_form Tryz.underlying24 h
 obtain⟨xs,hx⟩:=bd4 h hw
 exact⟨xs,_,rfl,hx⟩
theorem cl7 {n:Nat} {v:Value} {y:DataW H × List MemPlace} (h:DataW.trod enc Tryz.prog W 0 sp hd n 28 [v]=some y) (hw:∀k∈y.1.weights Tryz.prog 28,k≤reachBytes):∃xs:List (List Int),Sl (ad6 W) v xs:=
 Sl.opened Tryz.underlying28 (by kernel_rfl) (by decide) (by kernel_rfl) (fun n cs y h hw=>dG8 n cs y h hw) h hw
end
end
section
open Go.RowKit
structure Twn (H:j5) (vm vb vt um uo ua:Value) (t:D5):Prop where
 h:Hou H vm vb vt t.h
 s:Sho H um uo ua t.s
abbrev ah0 (vm vb vt um uo ua:Value) (t:D5):Value:= .agg #[vm,vb,vt,.int .i64 t.h.ch,um,uo,ua,.int .i64 t.s.fr]
theorem Twn.mono {H H':j5} (k:D8 H H') {vm vb vt um uo ua:Value} {t:D5} (x:Twn H vm vb vt um uo ua t):Twn H' vm vb vt um uo ua t:=⟨x.h.mono k,x.s.mono k⟩
theorem I5 {H:j5} {B:Nat} {vm vb vt um uo ua:Value} {t:D5} {T:TypeId} (e:H B=some (.cells (ah0 vm vb vt um uo ua t).cells T (0,0))):
 (∀w,j4 H w→w.cell? ⟨B,0,none⟩=some vm)∧(∀w,j4 H w→w.cell? ⟨B,1,none⟩=some vb)∧(∀w,j4 H w→w.cell? ⟨B,2,none⟩=some vt)∧(∀w,j4 H w→w.cell? ⟨B,3,none⟩=some (.int .i64 t.h.ch))∧
  (∀w,j4 H w→w.cell? ⟨B,4,none⟩=some um)∧(∀w,j4 H w→w.cell? ⟨B,5,none⟩=some uo)∧(∀w,j4 H w→w.cell? ⟨B,6,none⟩=some ua)∧(∀w,j4 H w→w.cell? ⟨B,7,none⟩=some (.int .i64 t.s.fr)):=
 ⟨fun _ hw=>D7 e hw 0,fun _ hw=>D7 e hw 1,fun _ hw=>D7 e hw 2,fun _ hw=>D7 e hw 3,fun _ hw=>D7 e hw 4,fun _ hw=>D7 e hw 5,fun _ hw=>D7 e hw 6,fun _ hw=>D7 e hw 7⟩
def bt6 (H:j5) (v:Value) (t:D5):Prop:=∃vm vb vt um uo ua,v=ah0 vm vb vt um uo ua t∧Twn H vm vb vt um uo ua t
structure aA5 (w0:World) (H0:j5) (O:Nat) (w:World) (H:j5) (vm vb vt um uo ua:Value) (t:D5):Prop where
 c:J4 w0 H0 O 32 w H #[vm,vb,vt,.int .i64 t.h.ch,um,uo,ua,.int .i64 t.s.fr]
 t:Twn H vm vb vt um uo ua t
end
section
open Go.RowKit
attribute [local go_sem] j4.drew j4.alloc j4.drewN WB.holds Oper.semAt_some
theorem aZ8 (r p s:Int) (w:World):
 Calls Tryz.prog 138 #[.int .i64 r,.int .i64 p,.int .i64 s] w (I1 w (.agg #[.int .i64 r,.int .i64 p,.int .i64 s])):=by
 go_enter Tryz.func138,Tryz.ntmps138
 go_wp2
 refine bodyPost_ret (results_cell_row rfl _ _ w.heap.size 96 _ (0,0) _ rfl (heap_alloc_new w _) Tryz.underlying96 rfl (by kernel_rfl)) rfl ?_
 exact⟨rfl,(Below.refl _ _).alloc (fh0 _) _⟩
theorem da0 (um uo ua vm vo va:Value) (s:G5) (H:j5) (w:World) (hw:j4 H w) (ho:Sho H um uo ua s) (hh:Sho H vm vo va s):
 Calls Tryz.prog 55 #[aq3 um uo ua s,aq3 vm vo va s] w (I1 w (.bool true)):=by
 obtain⟨am,cm,rfl,hm1,hm2⟩:=hh.m.form
 obtain⟨ab,cb,rfl,hb1,hb2⟩:=hh.o.form
 obtain⟨at',ct,rfl,ht1,ht2⟩:=hh.a.form
 obtain⟨dm,em,rfl,hm3,hm4⟩:=ho.m.form
 obtain⟨db,eb,rfl,hb3,hb4⟩:=ho.o.form
 obtain⟨dt,et,rfl,ht3,ht4⟩:=ho.a.form
 have hsame:∀(H':j5) (w:World),j4 H' w→D8 H H'→Calls Tryz.prog 86 #[.slice dt s.wa.length et,.slice at' s.wa.length ct] w (I1 w (.bool true)):=fun H' w hw k=>by
  have h:=aV1 _ _ _ _ H' w hw (ho.a.mono k) (hh.a.mono k)
  simpa using h
 replace hsame:=fe6 hsame
 go_enter Tryz.func55,Tryz.ntmps55
 go_wp2_with(first|((have hgd:=hx;refine u7 rfl _ rfl hx ?_;intro C w2 H2 hle2 hx2 hC hCw;obtain⟨hd0,hd1,hd2,hd3⟩:=V6 hC;replace hc0:=lift hle2 hc0;replace hc1:=lift hle2 hc1;replace hc2:=lift hle2 hc2;replace hc3:=lift hle2 hc3;clear hC hx hw1;have hw2:=hx2.holds;have hl2:=hle.trans hle2))|(refine u7 rfl _ rfl (Ext.refl hw) ?_;intro B w1 H1 hle hx hB hBw;obtain⟨hc0,hc1,hc2,hc3⟩:=V6 hB;clear hB hw;have hw1:=hx.holds)|((go_at_call 86;refine(hsame.out H2 _ hw2 hl2).mono ?_;rintro e w3 ⟨rfl,hb3⟩;have hw3:=hw2.below hb3;have hx3:=hx2.step (hb3.mono hx2.below.size) hw3)))
 have hhm:=hh.mono hl2
 have hom:=ho.mono hl2
 clear hh ho hgd hw2 hx2 hb3
 go_loopw [5] (fun i wr=>∃k:Nat,k≤s.mo.length∧i= .int .i64 k∧Ext w H wr H2) (fun i _=>s.mo.length-(intOf i).toNat)
 case atStart=>exact⟨0,fh3 _,rfl,hx3⟩
 case round=>
  clear hx3 hw3
  obtain⟨k,hk,rfl,E5⟩:=hrel
  have hwr:=E5.holds
  by_cases hlk:k<s.mo.length
  ·obtain⟨z,hzk⟩:=At.mk hlk
   obtain⟨bb,ob',cb',hez,⟨hy1,hy2,hy3⟩,q0,q1,q2⟩:=hhm.m.mld hzk
   cases hez
   obtain⟨bo,oo,co,hez,_,p0,p1,p2⟩:=hom.m.mld hzk
   cases hez
   go_upto_region 6 with fail
   refine E8 H2 (by kernel_rfl) (by kernel_rfl) hwr (fun hne=> ?_)
   repeat go_big_quiet_step((first|fail))
   refine wpQuiet_nil ?_
   rintro⟨w2,hw2,hb2⟩
   clear hne
   go_wp2_with fail
   go_roundw
   case rel=>exact⟨k+1,by omega,by go_num,E5.step (hb2.mono E5.below.size) hw2⟩
   case measure=>simp[intOf];omega
  ·go_wp2_with fail
   go_loopw [6] (fun i wr=>∃k:Nat,k≤s.wo.length∧i= .int .i64 k∧Ext w H wr H2) (fun i _=>s.wo.length-(intOf i).toNat)
   case atStart=>exact⟨0,fh3 _,rfl,E5⟩
   case round=>
    clear E5 hwr
    obtain⟨k,hk,rfl,E5⟩:=hrel
    have hwr:=E5.holds
    by_cases hlk:k<s.wo.length
    ·obtain⟨z,hzk⟩:=At.mk hlk
     obtain⟨bb,ob',cb',u,hez,hi,q0⟩:=hhm.o.list hzk
     cases hez
     obtain⟨bo,oo,co,v,hez,hj,p0⟩:=hom.o.list hzk
     cases hez
     have hss:∀w,j4 H2 w→Calls Tryz.prog 86 #[v,u] w (I1 w (.bool true)):=fun w hw=>by simpa using aV1 _ _ _ _ H2 w hw hj hi
     replace hss:=fe6 hss
     go_upto_region 11 with fail
     refine E8 H2 (by kernel_rfl) (by kernel_rfl) hwr (fun hne=> ?_)
     repeat go_big_quiet_step((first|(go_at_call 86;exact Calls.am7 (hss.out _ (WB.holds _)))))
     refine wpQuiet_nil ?_
     rintro⟨w2,hw2,hb2⟩
     clear hne
     go_wp2_with fail
     go_roundw
     case rel=>exact⟨k+1,by omega,by go_num,E5.step (hb2.mono E5.below.size) hw2⟩
     case measure=>simp[intOf];omega
    ·go_wp2_with fail
     go_ret
     exact⟨rfl,E5.below⟩
def bA0 (s:G5):Bool:=decide (40<s.mo.length) || (decide (40<s.wo.length) || (decide (40<s.wa.length) || s.wo.any fun x=>decide (40<x.length)))
theorem da1 (vm vo va:Value) (s:G5) (H:j5) (w:World) (hw:j4 H w) (hh:Sho H vm vo va s):
 Calls Tryz.prog 85 #[aq3 vm vo va s] w (I1 w (.bool (bA0 s))):=by
 obtain⟨am,cm,rfl,hm1,hm2⟩:=hh.m.form
 obtain⟨ab,cb,rfl,hb1,hb2⟩:=hh.o.form
 obtain⟨at',ct,rfl,ht1,ht2⟩:=hh.a.form
 have key:Hid (bA0 s=(decide (40<(s.mo.length:Int)) || (decide (40<(s.wo.length:Int)) || (decide (40<(s.wa.length:Int)) || s.wo.any fun x=>decide (40<x.length))))):=by
  show _=_
  unfold bA0
  congr 1
  ·exact decide_eq_decide.2 (by omega)
  ·congr 1
   ·exact decide_eq_decide.2 (by omega)
   ·congr 1
    exact decide_eq_decide.2 (by omega)
 cases g1:decide (40<(s.mo.length:Int))
 ·cases g2:decide (40<(s.wo.length:Int))
  ·cases g3:decide (40<(s.wa.length:Int))
   ·rw[g1,g2,g3]at key
    go_enter Tryz.func85,Tryz.ntmps85
    go_wp2_with(first|(refine u7 rfl _ rfl (Ext.refl hw) ?_;intro B w1 H1 hle hx hB hBw;obtain⟨hc0,hc1,hc2,hc3⟩:=V6 hB;clear hB hw;have hw1:=hx.holds))
    have hom:=hh.o.mono hle
    clear hh g1 g2 g3
    go_loopw [3] (fun i wr=>∃k:Nat,k≤s.wo.length∧i= .int .i64 k∧Hid ((s.wo.take k).any (fun x=>decide (40<x.length))=false)∧Ext w H wr H1) (fun i _=>s.wo.length-(intOf i).toNat)
    case atStart=>exact⟨0,fh3 _,rfl,rfl,hx⟩
    case round=>
     clear hx hw1
     obtain⟨k,hk,rfl,hok,E5⟩:=hrel
     have hwr:=E5.holds
     by_cases hlk:k<s.wo.length
     ·obtain⟨z,hzk⟩:=At.mk hlk
      obtain⟨bo,oo,co,v,hez,hj,p0⟩:=hom.list hzk
      cases hez
      obtain⟨a1,c1,rfl,_,_⟩:=hj.form
      have hsp:=hzk.take
      replace hsp:=fe6 hsp
      by_cases hz:(40:Int)<z.length
      ·go_wp2_with fail
       go_ret
       exact⟨M0 (by
        rw[key.out]
        show true=_
        have:s.wo.any (fun x=>decide (40<x.length))=true:=List.any_eq_true.2 ⟨z,hzk.mem,by simp;omega⟩
        rw[this];rfl),E5.below⟩
      ·go_wp2_with fail
       go_roundw
       case rel=>exact⟨k+1,by omega,by go_num,fe6 (by rw[hsp.out,List.any_append,hok.out];simp;omega),E5⟩
       case measure=>simp[intOf];omega
     ·go_wp2_with fail
      go_ret
      exact⟨M0 (by
       rw[key.out]
       have h:=hok.out
       rw[fg7 (by omega)]at h
       rw[h];rfl),E5.below⟩
   ·rw[g1,g2,g3]at key
    go_enter Tryz.func85,Tryz.ntmps85
    go_wp2_with(first|(refine u7 rfl _ rfl (Ext.refl hw) ?_;intro B w1 H1 hle hx hB hBw;obtain⟨hc0,hc1,hc2,hc3⟩:=V6 hB;clear hB hw;have hw1:=hx.holds))
    go_ret
    exact⟨M0 (by rw[key.out];rfl),hx.below⟩
  ·rw[g1,g2]at key
   go_enter Tryz.func85,Tryz.ntmps85
   go_wp2_with(first|(refine u7 rfl _ rfl (Ext.refl hw) ?_;intro B w1 H1 hle hx hB hBw;obtain⟨hc0,hc1,hc2,hc3⟩:=V6 hB;clear hB hw;have hw1:=hx.holds))
   go_ret
   exact⟨M0 (by rw[key.out];rfl),hx.below⟩
 ·rw[g1]at key
  go_enter Tryz.func85,Tryz.ntmps85
  go_wp2_with(first|(refine u7 rfl _ rfl (Ext.refl hw) ?_;intro B w1 H1 hle hx hB hBw;obtain⟨hc0,hc1,hc2,hc3⟩:=V6 hB;clear hB hw;have hw1:=hx.holds))
  go_ret
  exact⟨M0 (by rw[key.out];rfl),hx.below⟩
end
section
open Go.RowKit
attribute [local go_sem] j4.drew j4.alloc j4.drewN WB.holds Oper.semAt_some
theorem aN8 (v:Value) (l:List Int) (hl:l.length≤1000000) (H:j5) (w:World) (hw:j4 H w) (hs:Sl H v l):
 Calls Tryz.prog 96 #[v] w (bh8 w H 3 l):=by
 have hs0:=hs
 have heq:∀(w:World) (a:Option Addr) (n c n' c':Nat),_:=fun w a n c n' c'=>Go.Lib.run_eql_slice_nil (P:=Tryz.prog) w 24 3 a n c n' c' Tryz.underlying24
 obtain⟨a,c,rfl,_,_,_,hor⟩:=hs0
 cases a with
 |none=>
  have he:l=[]:=by
   rcases hor with h|⟨_,_,_,_,_,h,_⟩
   ·exact h
   ·cases h
  subst he
  clear hor
  go_enter Tryz.func96,Tryz.ntmps96
  go_wp2
  go_ret
  exact⟨_,H,rfl,Ext.refl hw,Own.nil _ _ _ _⟩
 |some ad=>
  clear hor
  go_enter Tryz.func96,Tryz.ntmps96
  go_wp2_with(first|((refine aj2 (w0:=w) (H0:=H) ag8 rfl _ _ rfl ((Ext.refl hw).alloc _) rfl (Own.emptyAt (heap_alloc_new _ _) (fh0 _) (hw.D6 (fh0 _))) rfl hs (by simp[Enc.M4];omega) (by simp;omega) ?_;intro vB wB ao5 hxB hwB hgB;rw[ff9]at ao5)))
  go_ret
  exact⟨vB,H,rfl,hxB,ao5⟩
theorem bD1 (v:Value) (l:List ah4) (hl:l.length≤1000000) (H:j5) (w:World) (hw:j4 H w) (hs:Sl H v l):
 Calls Tryz.prog 127 #[v] w (bh8 w H 94 l):=by
 have hs0:=hs
 have heq:∀(w:World) (a:Option Addr) (n c n' c':Nat),_:=fun w a n c n' c'=>Go.Lib.run_eql_slice_nil (P:=Tryz.prog) w 22 94 a n c n' c' Tryz.underlying22
 obtain⟨a,c,rfl,_,_,_,hor⟩:=hs0
 cases a with
 |none=>
  have he:l=[]:=by
   rcases hor with h|⟨_,_,_,_,_,h,_⟩
   ·exact h
   ·cases h
  subst he
  clear hor
  go_enter Tryz.func127,Tryz.ntmps127
  go_wp2
  go_ret
  exact⟨_,H,rfl,Ext.refl hw,Own.nil _ _ _ _⟩
 |some ad=>
  clear hor
  go_enter Tryz.func127,Tryz.ntmps127
  go_wp2_with(first|((refine aj2 (w0:=w) (H0:=H) aY9 rfl _ _ rfl ((Ext.refl hw).alloc _) rfl (Own.emptyAt (heap_alloc_new _ _) (fh0 _) (hw.D6 (fh0 _))) rfl hs (by simp[Enc.M4];omega) (by simp;omega) ?_;intro vB wB ao5 hxB hwB hgB;rw[ff9]at ao5)))
  go_ret
  exact⟨vB,H,rfl,hxB,ao5⟩
theorem cy4 (v:Value) (l:List ar8) (hl:l.length≤1000000) (H:j5) (w:World) (hw:j4 H w) (hs:Sl H v l):
 Calls Tryz.prog 128 #[v] w (bh8 w H 127 l):=by
 have hs0:=hs
 have heq:∀(w:World) (a:Option Addr) (n c n' c':Nat),_:=fun w a n c n' c'=>Go.Lib.run_eql_slice_nil (P:=Tryz.prog) w 23 127 a n c n' c' Tryz.underlying23
 obtain⟨a,c,rfl,_,_,_,hor⟩:=hs0
 cases a with
 |none=>
  have he:l=[]:=by
   rcases hor with h|⟨_,_,_,_,_,h,_⟩
   ·exact h
   ·cases h
  subst he
  clear hor
  go_enter Tryz.func128,Tryz.ntmps128
  go_wp2
  go_ret
  exact⟨_,H,rfl,Ext.refl hw,Own.nil _ _ _ _⟩
 |some ad=>
  clear hor
  go_enter Tryz.func128,Tryz.ntmps128
  go_wp2_with(first|((refine aj2 (w0:=w) (H0:=H) aZ0 rfl _ _ rfl ((Ext.refl hw).alloc _) rfl (Own.emptyAt (heap_alloc_new _ _) (fh0 _) (hw.D6 (fh0 _))) rfl hs (by simp[Enc.M4];omega) (by simp;omega) ?_;intro vB wB ao5 hxB hwB hgB;rw[ff9]at ao5)))
  go_ret
  exact⟨vB,H,rfl,hxB,ao5⟩
theorem bD2 (v:Value) (l:List Mld) (hl:l.length≤1000000) (H:j5) (w:World) (hw:j4 H w) (hs:Sl H v l):
 Calls Tryz.prog 129 #[v] w (bh8 w H 96 l):=by
 have hs0:=hs
 have heq:∀(w:World) (a:Option Addr) (n c n' c':Nat),_:=fun w a n c n' c'=>Go.Lib.run_eql_slice_nil (P:=Tryz.prog) w 27 96 a n c n' c' Tryz.underlying27
 obtain⟨a,c,rfl,_,_,_,hor⟩:=hs0
 cases a with
 |none=>
  have he:l=[]:=by
   rcases hor with h|⟨_,_,_,_,_,h,_⟩
   ·exact h
   ·cases h
  subst he
  clear hor
  go_enter Tryz.func129,Tryz.ntmps129
  go_wp2
  go_ret
  exact⟨_,H,rfl,Ext.refl hw,Own.nil _ _ _ _⟩
 |some ad=>
  clear hor
  go_enter Tryz.func129,Tryz.ntmps129
  go_wp2_with(first|((refine aj2 (w0:=w) (H0:=H) aQ1 rfl _ _ rfl ((Ext.refl hw).alloc _) rfl (Own.emptyAt (heap_alloc_new _ _) (fh0 _) (hw.D6 (fh0 _))) rfl hs (by simp[Enc.M4];omega) (by simp;omega) ?_;intro vB wB ao5 hxB hwB hgB;rw[ff9]at ao5)))
  go_ret
  exact⟨vB,H,rfl,hxB,ao5⟩
theorem cy5 (v:Value) (l:List (List Int)) (hl:l.length≤1000000) (H:j5) (w:World) (hw:j4 H w) (hs:Sl H v l):
 Calls Tryz.prog 130 #[v] w (bh8 w H 24 l):=by
 have hs0:=hs
 have heq:∀(w:World) (a:Option Addr) (n c n' c':Nat),_:=fun w a n c n' c'=>Go.Lib.run_eql_slice_nil (P:=Tryz.prog) w 28 24 a n c n' c' Tryz.underlying28
 obtain⟨a,c,rfl,_,_,_,hor⟩:=hs0
 cases a with
 |none=>
  have he:l=[]:=by
   rcases hor with h|⟨_,_,_,_,_,h,_⟩
   ·exact h
   ·cases h
  subst he
  clear hor
  go_enter Tryz.func130,Tryz.ntmps130
  go_wp2
  go_ret
  exact⟨_,H,rfl,Ext.refl hw,Own.nil _ _ _ _⟩
 |some ad=>
  clear hor
  go_enter Tryz.func130,Tryz.ntmps130
  go_wp2_with(first|((refine aj2 (w0:=w) (H0:=H) eList rfl _ _ rfl ((Ext.refl hw).alloc _) rfl (Own.emptyAt (heap_alloc_new _ _) (fh0 _) (hw.D6 (fh0 _))) rfl hs (by simp[Enc.M4];omega) (by simp;omega) ?_;intro vB wB ao5 hxB hwB hgB;rw[ff9]at ao5)))
  go_ret
  exact⟨vB,H,rfl,hxB,ao5⟩
end
section
open Go.RowKit
attribute [local go_sem] j4.drew j4.alloc j4.drewN WB.holds Oper.semAt_some
def cl8 {α:Type} [Enc α] (w0 w:World) (H0 H:j5) (O k:Nat) (T eT:TypeId) (cur:Array Value) (xs:List α) (p:Nat) (e:Ending) (w':World):Prop:=
 ∃g c H',e= .returned (.tuple #[.pointer (some ⟨g,p,none⟩),.bool true])∧J4 w0 H0 O T w' H' (cur.setIfInBounds k (.slice (some ⟨g,0,none⟩) xs.length c))∧D8 H H'∧Own H' w.heap.size w' eT (.slice (some ⟨g,0,none⟩) xs.length c) xs
theorem da2 {w:World} {O k:Nat} {v:Value} {H:j5} {xs:List Int} (hc:w.cell? ⟨O,k,none⟩=some v) (hs:Sl H v xs) (i:Int) (hi:inL xs i=false):
 Calls Tryz.prog 157 #[.pointer (some ⟨O,k,none⟩),.int .i64 i] w (I1 w (.tuple #[.pointer none,.bool false])):=by
 obtain⟨a,c,rfl,hc1,hc2⟩:=hs.form
 have h:i<0∨(¬i<0∧(xs.length:Int)≤i):=by
  unfold inL at hi
  by_cases h0:i<0
  ·exact .inl h0
  ·right
   refine⟨h0, ?_⟩
   rw[decide_eq_true (by omega),Bool.true_and]at hi
   have:=of_decide_eq_false hi
   omega
 clear hi
 rcases h with h|⟨h,h2⟩
 ·go_enter Tryz.func157,Tryz.ntmps157
  go_wp2
  go_ret2
  exact⟨rfl,Below.refl _ _⟩
 ·go_enter Tryz.func157,Tryz.ntmps157
  go_wp2
  go_ret2
  exact⟨rfl,Below.refl _ _⟩
theorem cF2 {w0 w:World} {H0 H:j5} {O k:Nat} {T:TypeId} {cur:Array Value} (hc:J4 w0 H0 O T w H cur) {v:Value} {xs:List Int} (hv:cur[k]? =some v) (hs:Sl H v xs) (hl:xs.length≤1000000) (i:Nat) (hi:i<xs.length):
 Calls Tryz.prog 157 #[.pointer (some ⟨O,k,none⟩),.int .i64 (i:Int)] w (cl8 w0 w H0 H O k T 3 cur xs i):=by
 obtain⟨a,c,rfl,hc1,hc2⟩:=hs.form
 have hcl:=aN8 _ xs hl H w hc.x.holds hs
 have h0:=(hc.cell k).trans hv
 have hi0:¬(i:Int)<0:=by omega
 have hi1:¬(xs.length:Int)≤(i:Int):=by omega
 have hi2:(0:Int)≤(i:Int):=by omega
 have hi3:(i:Int)<(xs.length:Int):=by omega
 replace hcl:=fe6 hcl
 go_enter Tryz.func157,Tryz.ntmps157
 go_upto_region 4 with(go_at_call 96;go_must (refine hcl.out.mono ?_);rintro e w2 ⟨v2,H2,rfl,x2,o2⟩;obtain⟨a2,cg,rfl,_,_⟩:=o2.form;have c2:=hc.ext x2;have g0:=(c2.cell k).trans hv;have g1:=c2.fz k)
 obtain⟨x,hx⟩:=At.mk hi
 obtain⟨g,rfl⟩:=o2.addr rfl (Nat.lt_of_le_of_lt (fh3 _) hi)
 have hlt:=hc.lt
 obtain⟨_,_,hg2,_⟩:=o2.as9 hx
 have le2:=fe6 (x2.le hc.x.holds)
 have o3:=o2.setCell (a:=⟨O,k,none⟩) (fun h=>by simp[Value.ownBlock]at h;omega) (.slice (some ⟨g,0,none⟩) xs.length cg)
 have c3:=c2.set k (.slice (some ⟨g,0,none⟩) xs.length cg)
 replace o3:=fe6 o3
 replace c3:=fe6 c3
 clear o2 x2 hx
 go_wp2
 go_ret2
 exact⟨g,cg,H2,rfl,c3.out,le2.out,o3.out⟩
theorem dN7 {w:World} {O k:Nat} {v:Value} {H:j5} {xs:List ah4} (hc:w.cell? ⟨O,k,none⟩=some v) (hs:Sl H v xs) (i:Int) (hi:inL xs i=false):
 Calls Tryz.prog 153 #[.pointer (some ⟨O,k,none⟩),.int .i64 i] w (I1 w (.tuple #[.pointer none,.bool false])):=by
 obtain⟨a,c,rfl,hc1,hc2⟩:=hs.form
 have h:i<0∨(¬i<0∧(xs.length:Int)≤i):=by
  unfold inL at hi
  by_cases h0:i<0
  ·exact .inl h0
  ·right
   refine⟨h0, ?_⟩
   rw[decide_eq_true (by omega),Bool.true_and]at hi
   have:=of_decide_eq_false hi
   omega
 clear hi
 rcases h with h|⟨h,h2⟩
 ·go_enter Tryz.func153,Tryz.ntmps153
  go_wp2
  go_ret2
  exact⟨rfl,Below.refl _ _⟩
 ·go_enter Tryz.func153,Tryz.ntmps153
  go_wp2
  go_ret2
  exact⟨rfl,Below.refl _ _⟩
theorem dG9 {w0 w:World} {H0 H:j5} {O k:Nat} {T:TypeId} {cur:Array Value} (hc:J4 w0 H0 O T w H cur) {v:Value} {xs:List ah4} (hv:cur[k]? =some v) (hs:Sl H v xs) (hl:xs.length≤1000000) (i:Nat) (hi:i<xs.length):
 Calls Tryz.prog 153 #[.pointer (some ⟨O,k,none⟩),.int .i64 (i:Int)] w (cl8 w0 w H0 H O k T 94 cur xs (i*3)):=by
 obtain⟨a,c,rfl,hc1,hc2⟩:=hs.form
 have hcl:=bD1 _ xs hl H w hc.x.holds hs
 have h0:=(hc.cell k).trans hv
 have hi0:¬(i:Int)<0:=by omega
 have hi1:¬(xs.length:Int)≤(i:Int):=by omega
 have hi2:(0:Int)≤(i:Int):=by omega
 have hi3:(i:Int)<(xs.length:Int):=by omega
 replace hcl:=fe6 hcl
 go_enter Tryz.func153,Tryz.ntmps153
 go_upto_region 4 with(go_at_call 127;go_must (refine hcl.out.mono ?_);rintro e w2 ⟨v2,H2,rfl,x2,o2⟩;obtain⟨a2,cg,rfl,_,_⟩:=o2.form;have c2:=hc.ext x2;have g0:=(c2.cell k).trans hv;have g1:=c2.fz k)
 obtain⟨x,hx⟩:=At.mk hi
 obtain⟨g,rfl⟩:=o2.addr rfl (Nat.lt_of_le_of_lt (fh3 _) hi)
 have hlt:=hc.lt
 obtain⟨_,_,hg2,_⟩:=o2.as9 hx
 have le2:=fe6 (x2.le hc.x.holds)
 have o3:=o2.setCell (a:=⟨O,k,none⟩) (fun h=>by simp[Value.ownBlock]at h;omega) (.slice (some ⟨g,0,none⟩) xs.length cg)
 have c3:=c2.set k (.slice (some ⟨g,0,none⟩) xs.length cg)
 replace o3:=fe6 o3
 replace c3:=fe6 c3
 clear o2 x2 hx
 go_wp2
 go_ret2
 exact⟨g,cg,H2,rfl,c3.out,le2.out,o3.out⟩
theorem da3 {w:World} {O k:Nat} {v:Value} {H:j5} {xs:List Mld} (hc:w.cell? ⟨O,k,none⟩=some v) (hs:Sl H v xs) (i:Int) (hi:inL xs i=false):
 Calls Tryz.prog 162 #[.pointer (some ⟨O,k,none⟩),.int .i64 i] w (I1 w (.tuple #[.pointer none,.bool false])):=by
 obtain⟨a,c,rfl,hc1,hc2⟩:=hs.form
 have h:i<0∨(¬i<0∧(xs.length:Int)≤i):=by
  unfold inL at hi
  by_cases h0:i<0
  ·exact .inl h0
  ·right
   refine⟨h0, ?_⟩
   rw[decide_eq_true (by omega),Bool.true_and]at hi
   have:=of_decide_eq_false hi
   omega
 clear hi
 rcases h with h|⟨h,h2⟩
 ·go_enter Tryz.func162,Tryz.ntmps162
  go_wp2
  go_ret2
  exact⟨rfl,Below.refl _ _⟩
 ·go_enter Tryz.func162,Tryz.ntmps162
  go_wp2
  go_ret2
  exact⟨rfl,Below.refl _ _⟩
theorem cF3 {w0 w:World} {H0 H:j5} {O k:Nat} {T:TypeId} {cur:Array Value} (hc:J4 w0 H0 O T w H cur) {v:Value} {xs:List Mld} (hv:cur[k]? =some v) (hs:Sl H v xs) (hl:xs.length≤1000000) (i:Nat) (hi:i<xs.length):
 Calls Tryz.prog 162 #[.pointer (some ⟨O,k,none⟩),.int .i64 (i:Int)] w (cl8 w0 w H0 H O k T 96 cur xs (i*3)):=by
 obtain⟨a,c,rfl,hc1,hc2⟩:=hs.form
 have hcl:=bD2 _ xs hl H w hc.x.holds hs
 have h0:=(hc.cell k).trans hv
 have hi0:¬(i:Int)<0:=by omega
 have hi1:¬(xs.length:Int)≤(i:Int):=by omega
 have hi2:(0:Int)≤(i:Int):=by omega
 have hi3:(i:Int)<(xs.length:Int):=by omega
 replace hcl:=fe6 hcl
 go_enter Tryz.func162,Tryz.ntmps162
 go_upto_region 4 with(go_at_call 129;go_must (refine hcl.out.mono ?_);rintro e w2 ⟨v2,H2,rfl,x2,o2⟩;obtain⟨a2,cg,rfl,_,_⟩:=o2.form;have c2:=hc.ext x2;have g0:=(c2.cell k).trans hv;have g1:=c2.fz k)
 obtain⟨x,hx⟩:=At.mk hi
 obtain⟨g,rfl⟩:=o2.addr rfl (Nat.lt_of_le_of_lt (fh3 _) hi)
 have hlt:=hc.lt
 obtain⟨_,_,hg2,_⟩:=o2.as9 hx
 have le2:=fe6 (x2.le hc.x.holds)
 have o3:=o2.setCell (a:=⟨O,k,none⟩) (fun h=>by simp[Value.ownBlock]at h;omega) (.slice (some ⟨g,0,none⟩) xs.length cg)
 have c3:=c2.set k (.slice (some ⟨g,0,none⟩) xs.length cg)
 replace o3:=fe6 o3
 replace c3:=fe6 c3
 clear o2 x2 hx
 go_wp2
 go_ret2
 exact⟨g,cg,H2,rfl,c3.out,le2.out,o3.out⟩
end
section
open Go.RowKit
attribute [local go_sem] j4.drew j4.alloc j4.drewN WB.holds Oper.semAt_some
theorem au9 (n lo hi:Int) (w:World):
 Calls Tryz.prog 59 #[.int .i64 n,.int .i64 lo,.int .i64 hi] w fun e w'=>e= .returned (.bool (within n lo hi))∧w=w':=by
 go_enter Tryz.func59,Tryz.ntmps59
 go_wp2
 all_goals
  go_ret
  simp[within]
 all_goals (intros;omega)
theorem bD3 (n:Int) (w:World):
 Calls Tryz.prog 104 #[.int .i64 n] w fun e w'=>e= .returned (.bool (!within n 0 12))∧w=w':=by
 go_enter Tryz.func104,Tryz.ntmps104
 go_wp2_with(first|(go_at_call 59;refine(au9 _ _ _ _).mono ?_;rintro e w' ⟨rfl,rfl⟩))
 go_ret
 exact⟨rfl,rfl⟩
theorem cy6 (va:Value) (xs:List Int) (H:j5) (w:World) (hw:j4 H w) (ha:Sl H va xs):
 Calls Tryz.prog 139 #[va,.func (.func 104) #[] #[]] w (bT4 w (xs.any fun n=> !within n 0 12) xs.length):=by
 obtain⟨aa,ca,rfl,ha1,ha2⟩:=ha.form
 go_enter Tryz.func139,Tryz.ntmps139
 go_wp2
 go_loopw [5,8] (fun _ i wr=>∃k:Nat,k≤xs.length∧i= .int .i64 k∧Hid ((xs.take k).any (fun n=> !within n 0 12)=false)∧w=wr) (fun _ i _=>xs.length-(intOf i).toNat)
 case atStart=>exact⟨0,fh3 _,rfl,rfl,rfl⟩
 case round=>
  obtain⟨k,hk,rfl,hok,rfl⟩:=hrel
  by_cases hlk:k<xs.length
  ·obtain⟨x,hxk⟩:=At.mk hlk
   obtain⟨b,o,cc,he,hi,hr⟩:=ha.int hxk
   cases he
   cases g:(!within x 0 12)
   all_goals have g':=fe6 g
   ·go_wp2_with(first|(go_at_call 104;refine(bD3 _ _).mono ?_;rintro e w' ⟨rfl,rfl⟩))
    go_roundw
    case rel=>exact⟨k+1,by omega,by go_num,by show _=_;rw[hxk.take,List.any_append,hok.out];simp only[List.any_cons,List.any_nil,g'.out];rfl,by first|rfl|trivial⟩
    case measure=>simp[intOf];omega
   ·go_wp2_with(first|(go_at_call 104;refine(bD3 _ _).mono ?_;rintro e w' ⟨rfl,rfl⟩))
    go_ret
    exact⟨k,rfl,rfl,by symm;rw[decide_eq_true (by omega),List.any_eq_true];exact⟨x,hxk.mem,g'.out⟩,by omega,by omega⟩
  ·go_wp2_with fail
   go_ret
   have h1:=hok.out
   rw[aq1 (xs:=xs) (k:=k) (by omega)]at h1
   exact⟨-1,rfl,rfl,by rw[h1];rfl,by omega,by omega⟩
theorem bT8 (va:Value) (xs:List Int) (H:j5) (w:World) (hw:j4 H w) (ha:Sl H va xs):
 Calls Tryz.prog 89 #[va,.func (.func 104) #[] #[]] w fun e w'=>e= .returned (.bool (xs.any fun n=> !within n 0 12))∧w=w':=by
 go_enter Tryz.func89,Tryz.ntmps89
 go_wp2_with(first|(go_at_call 139;refine(cy6 _ _ _ _ hw ha).mono ?_;rintro e w' ⟨r,rfl,rfl,hr1,hr2,hr3⟩))
 go_ret
 exact⟨M0 (by rw[←hr1]),rfl⟩
theorem bD4 (n:Int) (w:World):
 Calls Tryz.prog 106 #[.int .i64 n] w fun e w'=>e= .returned (.bool (!within n 0 12))∧w=w':=by
 go_enter Tryz.func106,Tryz.ntmps106
 go_wp2_with(first|(go_at_call 59;refine(au9 _ _ _ _).mono ?_;rintro e w' ⟨rfl,rfl⟩))
 go_ret
 exact⟨rfl,rfl⟩
theorem cy7 (va:Value) (xs:List Int) (H:j5) (w:World) (hw:j4 H w) (ha:Sl H va xs):
 Calls Tryz.prog 139 #[va,.func (.func 106) #[] #[]] w (bT4 w (xs.any fun n=> !within n 0 12) xs.length):=by
 obtain⟨aa,ca,rfl,ha1,ha2⟩:=ha.form
 go_enter Tryz.func139,Tryz.ntmps139
 go_wp2
 go_loopw [5,8] (fun _ i wr=>∃k:Nat,k≤xs.length∧i= .int .i64 k∧Hid ((xs.take k).any (fun n=> !within n 0 12)=false)∧w=wr) (fun _ i _=>xs.length-(intOf i).toNat)
 case atStart=>exact⟨0,fh3 _,rfl,rfl,rfl⟩
 case round=>
  obtain⟨k,hk,rfl,hok,rfl⟩:=hrel
  by_cases hlk:k<xs.length
  ·obtain⟨x,hxk⟩:=At.mk hlk
   obtain⟨b,o,cc,he,hi,hr⟩:=ha.int hxk
   cases he
   cases g:(!within x 0 12)
   all_goals have g':=fe6 g
   ·go_wp2_with(first|(go_at_call 106;refine(bD4 _ _).mono ?_;rintro e w' ⟨rfl,rfl⟩))
    go_roundw
    case rel=>exact⟨k+1,by omega,by go_num,by show _=_;rw[hxk.take,List.any_append,hok.out];simp only[List.any_cons,List.any_nil,g'.out];rfl,by first|rfl|trivial⟩
    case measure=>simp[intOf];omega
   ·go_wp2_with(first|(go_at_call 106;refine(bD4 _ _).mono ?_;rintro e w' ⟨rfl,rfl⟩))
    go_ret
    exact⟨k,rfl,rfl,by symm;rw[decide_eq_true (by omega),List.any_eq_true];exact⟨x,hxk.mem,g'.out⟩,by omega,by omega⟩
  ·go_wp2_with fail
   go_ret
   have h1:=hok.out
   rw[aq1 (xs:=xs) (k:=k) (by omega)]at h1
   exact⟨-1,rfl,rfl,by rw[h1];rfl,by omega,by omega⟩
theorem bT9 (va:Value) (xs:List Int) (H:j5) (w:World) (hw:j4 H w) (ha:Sl H va xs):
 Calls Tryz.prog 89 #[va,.func (.func 106) #[] #[]] w fun e w'=>e= .returned (.bool (xs.any fun n=> !within n 0 12))∧w=w':=by
 go_enter Tryz.func89,Tryz.ntmps89
 go_wp2_with(first|(go_at_call 139;refine(cy7 _ _ _ _ hw ha).mono ?_;rintro e w' ⟨r,rfl,rfl,hr1,hr2,hr3⟩))
 go_ret
 exact⟨M0 (by rw[←hr1]),rfl⟩
theorem aF0 {α:Type} (p:α→Bool) (l:List α):(l.any fun x=> !p x)= !l.all p:=by
 induction l with
 |nil=>rfl
 |cons x l ih=>rw[List.any_cons,List.all_cons,ih];cases p x<;>rfl
theorem bD5 (vm vo va vw:Value) (s:G5) (x:List Int) (B:Nat) (H:j5) (w:World) (hw:j4 H w) (hs:Sho H vm vo va s) (hx:Sl H vw x) (hc0:∀w,j4 H w→w.cell? ⟨B,0,none⟩=some vm):
 Calls Tryz.prog 103 #[vw,.pointer (some ⟨B,0,none⟩)] w fun e w'=>e= .returned (.bool (!ai5 s.mo.length x))∧w=w':=by
 have hx0:=hx
 obtain⟨aw,cw,rfl,_,_⟩:=hx.form
 obtain⟨am,cm,rfl,_,_⟩:=hs.m.form
 have key:(!ai5 s.mo.length x)=(!decide (x.length=s.mo.length) || (x.any fun n=> !within n 0 12)):=by unfold ai5;rw[aF0];cases decide (x.length=s.mo.length)<;>rfl
 rw[key]
 by_cases h:x.length=s.mo.length
 ·have ht:((x.length:Int) != (s.mo.length:Int))=false:=by rw[bne_eq_false_iff_eq];omega
  rw[decide_eq_true h]
  have hcx:=bT8 _ x H w hw hx0
  replace hcx:=fe6 hcx
  clear h key
  go_enter Tryz.func103,Tryz.ntmps103
  go_wp2_with(first|((go_at_call 89;refine hcx.out.mono ?_;rintro e w' ⟨rfl,rfl⟩)))
  go_ret
  exact⟨M0 (by simp),rfl⟩
 ·have ht:((x.length:Int) != (s.mo.length:Int))=true:=by rw[bne_iff_ne];omega
  rw[decide_eq_false h]
  clear h key
  go_enter Tryz.func103,Tryz.ntmps103
  go_wp2
  go_ret
  exact⟨M0 (by simp),rfl⟩
theorem bD6 (vm vo va:Value) (s:G5) (m:Mld) (B:Nat) (H:j5) (w:World) (hw:j4 H w) (hs:Sho H vm vo va s) (hc2:∀w,j4 H w→w.cell? ⟨B,2,none⟩=some va):
 Calls Tryz.prog 105 #[.agg #[.int .i64 m.pg,.int .i64 m.us,.int .i64 m.br],.pointer (some ⟨B,0,none⟩)] w (I1 w (.bool (!am5 s.wa.length m))):=by
 obtain⟨aa,ca,rfl,ha1,ha2⟩:=hs.a.form
 have key:Hid ((!am5 s.wa.length m)=(!within m.pg 0 ((s.wa.length:Int)-1) || (!within m.us 0 12 || !within m.br 0 1))):=by
  show _=_
  unfold am5
  cases within m.pg 0 ((s.wa.length:Int)-1)<;>cases within m.us 0 12<;>rfl
 cases g1:within m.pg 0 ((s.wa.length:Int)-1)
 all_goals cases g2:within m.us 0 12
 all_goals cases g3:within m.br 0 1
 all_goals
  rw[g1,g2,g3]at key
  go_enter Tryz.func105,Tryz.ntmps105
  go_wp2_with(first|(go_at_call 59;refine(au9 _ _ _ _).mono ?_;rintro e w' ⟨rfl,rfl⟩))
  go_ret
  exact⟨M0 (by rw[key.out];rfl),(Below.refl _ _).alloc (fh0 _) _⟩
theorem cy8 (vm vo vv va:Value) (s:G5) (xs:List Mld) (B:Nat) (H:j5) (w:World) (hw:j4 H w) (ha:Sl H va xs) (hs:Sho H vm vo vv s) (hc2:∀w,j4 H w→w.cell? ⟨B,2,none⟩=some vv):
 Calls Tryz.prog 145 #[va,.func (.func 105) #[] #[.pointer (some ⟨B,0,none⟩)]] w (bh9 w (xs.any fun m=> !am5 s.wa.length m) xs.length):=by
 obtain⟨aa,ca,rfl,ha1,ha2⟩:=ha.form
 go_enter Tryz.func145,Tryz.ntmps145
 go_wp2
 go_loopw [5,8] (fun _ i wr=>∃k:Nat,k≤xs.length∧i= .int .i64 k∧Hid ((xs.take k).any (fun m=> !am5 s.wa.length m)=false)∧Ext w H wr H) (fun _ i _=>xs.length-(intOf i).toNat)
 case atStart=>exact⟨0,fh3 _,rfl,rfl,Ext.refl hw⟩
 case round=>
  obtain⟨k,hk,rfl,hok,E5⟩:=hrel
  have hwr:=E5.holds
  by_cases hlk:k<xs.length
  ·obtain⟨x,hxk⟩:=At.mk hlk
   obtain⟨b,o,cc,he,⟨hi1,hi2,hi3⟩,hr1,hr2,hr3⟩:=ha.mld hxk
   cases he
   cases g:(!am5 s.wa.length x)
   all_goals have g':=fe6 g
   ·go_wp2_with(first|((go_at_call 105;refine(bD6 _ _ _ s x B H _ hwr hs hc2).mono ?_;rintro e w' ⟨rfl,hb2⟩)))
    go_roundw
    case rel=>exact⟨k+1,by omega,by go_num,by show _=_;rw[hxk.take,List.any_append,hok.out];simp only[List.any_cons,List.any_nil,g'.out];rfl,E5.step (hb2.mono E5.below.size) (hwr.below hb2)⟩
    case measure=>simp[intOf];omega
   ·go_wp2_with(first|((go_at_call 105;refine(bD6 _ _ _ s x B H _ hwr hs hc2).mono ?_;rintro e w' ⟨rfl,hb2⟩)))
    go_ret
    exact⟨k,rfl,(E5.step (hb2.mono E5.below.size) (hwr.below hb2)).below,by symm;rw[decide_eq_true (by omega),List.any_eq_true];exact⟨x,hxk.mem,g'.out⟩,by omega,by omega⟩
  ·go_wp2_with fail
   go_ret
   have h1:=hok.out
   rw[aq1 (xs:=xs) (k:=k) (by omega)]at h1
   exact⟨-1,rfl,E5.below,by rw[h1];rfl,by omega,by omega⟩
theorem bU0 (vm vo vv va:Value) (s:G5) (xs:List Mld) (B:Nat) (H:j5) (w:World) (hw:j4 H w) (ha:Sl H va xs) (hs:Sho H vm vo vv s) (hc2:∀w,j4 H w→w.cell? ⟨B,2,none⟩=some vv):
 Calls Tryz.prog 107 #[va,.func (.func 105) #[] #[.pointer (some ⟨B,0,none⟩)]] w (I1 w (.bool (xs.any fun m=> !am5 s.wa.length m))):=by
 go_enter Tryz.func107,Tryz.ntmps107
 go_wp2_with(first|(go_at_call 145;refine(cy8 _ _ _ _ s _ _ _ _ hw ha hs hc2).mono ?_;rintro e w' ⟨r,rfl,hb2,hr1,hr2,hr3⟩))
 go_ret
 exact⟨M0 (by rw[←hr1]),hb2⟩
theorem cy9 (vm vo vv va:Value) (s:G5) (xs:List (List Int)) (B:Nat) (H:j5) (w:World) (hw:j4 H w) (ha:Sl H va xs) (hs:Sho H vm vo vv s) (hc0:∀w,j4 H w→w.cell? ⟨B,0,none⟩=some vm):
 Calls Tryz.prog 146 #[va,.func (.func 103) #[] #[.pointer (some ⟨B,0,none⟩)]] w (bh9 w (xs.any fun m=> !ai5 s.mo.length m) xs.length):=by
 obtain⟨aa,ca,rfl,ha1,ha2⟩:=ha.form
 go_enter Tryz.func146,Tryz.ntmps146
 go_wp2
 go_loopw [5,8] (fun _ i wr=>∃k:Nat,k≤xs.length∧i= .int .i64 k∧Hid ((xs.take k).any (fun m=> !ai5 s.mo.length m)=false)∧Ext w H wr H) (fun _ i _=>xs.length-(intOf i).toNat)
 case atStart=>exact⟨0,fh3 _,rfl,rfl,Ext.refl hw⟩
 case round=>
  obtain⟨k,hk,rfl,hok,E5⟩:=hrel
  have hwr:=E5.holds
  by_cases hlk:k<xs.length
  ·obtain⟨x,hxk⟩:=At.mk hlk
   obtain⟨b,o,cc,u,he,hu,hr1⟩:=ha.list hxk
   cases he
   have hu0:=hu
   obtain⟨ua,uc,rfl,_,_⟩:=hu0.form
   cases g:(!ai5 s.mo.length x)
   all_goals have g':=fe6 g
   ·go_wp2_with(first|((go_at_call 103;refine(bD5 _ _ _ _ s x B H _ hwr hs hu hc0).mono ?_;rintro e w' ⟨rfl,rfl⟩;have hb2:Below wr.heap.size wr wr:=Below.refl _ _)))
    go_roundw
    case rel=>exact⟨k+1,by omega,by go_num,by show _=_;rw[hxk.take,List.any_append,hok.out];simp only[List.any_cons,List.any_nil,g'.out];rfl,E5.step (hb2.mono E5.below.size) (hwr.below hb2)⟩
    case measure=>simp[intOf];omega
   ·go_wp2_with(first|((go_at_call 103;refine(bD5 _ _ _ _ s x B H _ hwr hs hu hc0).mono ?_;rintro e w' ⟨rfl,rfl⟩;have hb2:Below wr.heap.size wr wr:=Below.refl _ _)))
    go_ret
    exact⟨k,rfl,(E5.step (hb2.mono E5.below.size) (hwr.below hb2)).below,by symm;rw[decide_eq_true (by omega),List.any_eq_true];exact⟨x,hxk.mem,g'.out⟩,by omega,by omega⟩
  ·go_wp2_with fail
   go_ret
   have h1:=hok.out
   rw[aq1 (xs:=xs) (k:=k) (by omega)]at h1
   exact⟨-1,rfl,E5.below,by rw[h1];rfl,by omega,by omega⟩
theorem bU1 (vm vo vv va:Value) (s:G5) (xs:List (List Int)) (B:Nat) (H:j5) (w:World) (hw:j4 H w) (ha:Sl H va xs) (hs:Sho H vm vo vv s) (hc0:∀w,j4 H w→w.cell? ⟨B,0,none⟩=some vm):
 Calls Tryz.prog 108 #[va,.func (.func 103) #[] #[.pointer (some ⟨B,0,none⟩)]] w (I1 w (.bool (xs.any fun m=> !ai5 s.mo.length m))):=by
 go_enter Tryz.func108,Tryz.ntmps108
 go_wp2_with(first|(go_at_call 146;refine(cy9 _ _ _ _ s _ _ _ _ hw ha hs hc0).mono ?_;rintro e w' ⟨r,rfl,hb2,hr1,hr2,hr3⟩))
 go_ret
 exact⟨M0 (by rw[←hr1]),hb2⟩
end
section
open Go.RowKit
attribute [local go_sem] j4.drew j4.alloc j4.drewN WB.holds Oper.semAt_some
theorem aQ3 {α:Type} {p:α→Bool} {l:List α} (h:(l.any fun x=> !p x)=false):l.all p=true:=by
 rw[aF0]at h
 simpa using h
theorem bi5 (vm vo va:Value) (s:G5) (H:j5) (w:World) (hw:j4 H w) (hs:Sho H vm vo va s):
 Calls Tryz.prog 69 #[aq3 vm vo va s] w (I1 w (.int .i64 (ax6 (Y5 s)))):=by
 obtain⟨am,cm,rfl,hm1,hm2⟩:=hs.m.form
 obtain⟨ao,co,rfl,ho1,ho2⟩:=hs.o.form
 obtain⟨aa,ca,rfl,ha1,ha2⟩:=hs.a.form
 have hmf:∀(fn:Fn) (first cap:Array Value) (w:World),(Instr.makeFunc fn first cap).run Tryz.prog w= .ok (.func fn first cap) w:=fun _ _ _ _=>rfl
 obtain⟨R,hR⟩:∃R,R=ax6 (Y5 s):=⟨_,rfl⟩
 rw[←hR]
 have hbad:¬Y0 s→R=20:=fun h=>by rw[hR];exact cE1 h
 have hgood:Y0 s→R=0:=fun h=>by rw[hR];exact cj3 h
 clear hR
 have hcs:(3:Int)<s.wa.length∨(¬(3:Int)<s.wa.length∧(5:Int)<s.mo.length)∨(¬(3:Int)<s.wa.length∧¬(5:Int)<s.mo.length∧(6:Int)<s.wo.length)∨
  (¬(3:Int)<s.wa.length∧¬(5:Int)<s.mo.length∧¬(6:Int)<s.wo.length∧within s.fr 1 12=false)∨(¬(3:Int)<s.wa.length∧¬(5:Int)<s.mo.length∧¬(6:Int)<s.wo.length∧within s.fr 1 12=true):=by
  cases within s.fr 1 12<;>simp<;>omega
 rcases hcs with g1|⟨g1,g2⟩|⟨g1,g2,g3⟩|⟨g1,g2,g3,g4⟩|⟨g1,g2,g3,g4⟩
 iterate 4
  ·have hRb:=hbad (fun v=>by have h1:=v.w3;have h2:=v.m5;have h3:=v.o6;have h4:=v.fr;first|omega|(rw[h4]at g4;cases g4))
   subst hRb
   clear hbad hgood
   go_enter Tryz.func69,Tryz.ntmps69
   go_wp2_with(first|(refine u7 rfl _ rfl (Ext.refl hw) ?_;intro B w1 H1 hle hx hB hBw;obtain⟨hc0,hc1,hc2,hc3⟩:=V6 hB;clear hB hw;have hw1:=hx.holds)|((go_at_call 59;refine(au9 _ _ _ _).mono ?_;rintro e w' ⟨rfl,rfl⟩)))
   go_ret
   exact⟨rfl,hx.below⟩
 replace hbad:=fe6 hbad
 replace hgood:=fe6 hgood
 go_enter Tryz.func69,Tryz.ntmps69
 go_upto_region 8 with(first|(refine u7 rfl _ rfl (Ext.refl hw) ?_;intro B w1 H1 hle hx hB hBw;obtain⟨hc0,hc1,hc2,hc3⟩:=V6 hB;clear hB hw;have hw1:=hx.holds)|(go_at_call 59;refine(au9 _ _ _ _).mono ?_;rintro e w' ⟨rfl,rfl⟩))
 have hs1:=hs.mono hle
 have cY:=bT9 _ s.wa H1 w1 hw1 hs1.a
 have cM:=bU0 _ _ _ _ s s.mo B H1 w1 hw1 hs1.m hs1 hc2
 have cW:=fun(W:World) (hW:j4 H1 W)=>bU1 _ _ _ _ s s.wo B H1 W hW hs1.o hs1 hc0
 clear hs hle
 cases k1:s.wa.any fun n=> !within n 0 12
 rotate_left
 ·have hRb:=hbad.out (fun v=>by have:=v.wa;rw[aF0,this]at k1;cases k1)
  subst hRb
  rw[k1]at cY
  replace cY:=fe6 cY
  clear hbad hgood k1 cM cW
  go_wp2_with(first|((go_at_call 89;refine cY.out.mono ?_;rintro e w' ⟨rfl,rfl⟩)))
  go_ret
  exact⟨rfl,hx.below⟩
 rw[k1]at cY
 replace cY:=fe6 cY
 cases k2:s.mo.any fun m=> !am5 s.wa.length m
 rotate_left
 ·have hRb:=hbad.out (fun v=>by have:=v.mo;rw[aF0,this]at k2;cases k2)
  subst hRb
  rw[k2]at cM
  replace cM:=fe6 cM
  clear hbad hgood k1 k2 cW
  go_wp2_with(first|((go_at_call 89;refine cY.out.mono ?_;rintro e w' ⟨rfl,rfl⟩))|((go_at_call 107;refine cM.out.mono ?_;rintro e w2 ⟨rfl,hb2⟩;have x2:=hx.step (hb2.mono hx.below.size) (hw1.below hb2))))
  go_ret
  exact⟨rfl,x2.below⟩
 rw[k2]at cM
 replace cM:=fe6 cM
 have hRW:(s.wo.any fun m=> !ai5 s.mo.length m)=false→R=0:=fun k3=>hgood.out ⟨by omega,by omega,by omega,g4,aQ3 k1,aQ3 k2,aQ3 k3⟩
 have hRX:(s.wo.any fun m=> !ai5 s.mo.length m)=true→R=20:=fun k3=>hbad.out (fun v=>by have:=v.wo;rw[aF0,this]at k3;cases k3)
 clear hbad hgood k1 k2
 cases k3:s.wo.any fun m=> !ai5 s.mo.length m
 ·have e:=hRW k3
  subst e
  rw[k3]at cW
  replace cW:=fe6 cW
  clear k3 hRW hRX
  go_wp2_with(first|((go_at_call 89;refine cY.out.mono ?_;rintro e w' ⟨rfl,rfl⟩))|((go_at_call 107;refine cM.out.mono ?_;rintro e w2 ⟨rfl,hb2⟩;have x2:=hx.step (hb2.mono hx.below.size) (hw1.below hb2);have hw2:=x2.holds))|((go_at_call 108;refine(cW.out _ hw2).mono ?_;rintro e w3 ⟨rfl,hb3⟩;have x3:=x2.step (hb3.mono x2.below.size) (hw2.below hb3))))
  go_ret
  exact⟨rfl,x3.below⟩
 ·have e:=hRX k3
  subst e
  rw[k3]at cW
  replace cW:=fe6 cW
  clear k3 hRW hRX
  go_wp2_with(first|((go_at_call 89;refine cY.out.mono ?_;rintro e w' ⟨rfl,rfl⟩))|((go_at_call 107;refine cM.out.mono ?_;rintro e w2 ⟨rfl,hb2⟩;have x2:=hx.step (hb2.mono hx.below.size) (hw1.below hb2);have hw2:=x2.holds))|((go_at_call 108;refine(cW.out _ hw2).mono ?_;rintro e w3 ⟨rfl,hb3⟩;have x3:=x2.step (hb3.mono x2.below.size) (hw2.below hb3))))
  go_ret
  exact⟨rfl,x3.below⟩
theorem bL0 (t:D5):(valid t.h=false∧aH2 (F6 t)=120)∨(valid t.h=true∧Y5 t.s=false∧aH2 (F6 t)=120)∨(valid t.h=true∧Y5 t.s=true∧aH2 (F6 t)=0):=by
 unfold F6 aH2
 cases valid t.h<;>cases Y5 t.s<;>simp
theorem bi6 (vm vb vt um uo ua:Value) (t:D5) (H:j5) (w:World) (hw:j4 H w) (ht:Twn H vm vb vt um uo ua t):
 Calls Tryz.prog 48 #[ah0 vm vb vt um uo ua t] w (I1 w (.int .i64 (aH2 (F6 t)))):=by
 have cT:=fun(H1:j5) (W:World) (hW:j4 H1 W) (hle:D8 H H1)=>aj7 vm vb vt t.h H1 W hW (ht.h.mono hle)
 have cF:=fun(H1:j5) (W:World) (hW:j4 H1 W) (hle:D8 H H1)=>bi5 um uo ua t.s H1 W hW (ht.s.mono hle)
 rcases bL0 t with⟨h1,h2⟩|⟨h1,h3,h2⟩|⟨h1,h3,h2⟩
 all_goals
  rw[h2]
  rw[h1]at cT
  try rw[h3]at cF
  replace cT:=fe6 cT
  replace cF:=fe6 cF
  clear h1 h2 ht
  try clear h3
  go_enter Tryz.func48,Tryz.ntmps48
  go_wp2_with(first|(refine u7 rfl _ rfl (Ext.refl hw) ?_;intro B w1 H1 hle hx hB hBw;obtain⟨hc0,hc1,hc2,hc3,hc4,O8,hc6,O9⟩:=I5 hB;clear hB hw;have hw1:=hx.holds)|((go_at_call 56;refine(cT.out _ _ hw1 hle).mono ?_;rintro e w2 ⟨rfl,hb2⟩;have x2:=hx.step (hb2.mono hx.below.size) (hw1.below hb2);have hw2:=x2.holds))|((go_at_call 69;refine(cF.out _ _ hw2 hle).mono ?_;rintro e w3 ⟨rfl,hb3⟩;replace x2:=x2.step (hb3.mono x2.below.size) (hw2.below hb3))))
  go_ret
  exact⟨rfl,x2.below⟩
theorem bd5 (vm vb vt um uo ua:Value) (t:D5) (H:j5) (w:World) (hw:j4 H w) (ht:Twn H vm vb vt um uo ua t):
 Calls Tryz.prog 49 #[ah0 vm vb vt um uo ua t] w (I1 w (.int .i64 (aH2 (F6 t)))):=by
 have cT:=fun(H1:j5) (W:World) (hW:j4 H1 W) (hle:D8 H H1)=>cL2 vm vb vt t.h H1 W hW (ht.h.mono hle)
 have cF:=fun(H1:j5) (W:World) (hW:j4 H1 W) (hle:D8 H H1)=>cL4 um uo ua t.s H1 W hW (ht.s.mono hle)
 rcases bL0 t with⟨h1,h2⟩|⟨h1,h3,h2⟩|⟨h1,h3,h2⟩
 all_goals
  rw[h2]
  rw[h1]at cT
  try rw[h3]at cF
  replace cT:=fe6 cT
  replace cF:=fe6 cF
  clear h1 h2 ht
  try clear h3
  go_enter Tryz.func49,Tryz.ntmps49
  go_wp2_with(first|(refine u7 rfl _ rfl (Ext.refl hw) ?_;intro B w1 H1 hle hx hB hBw;obtain⟨hc0,hc1,hc2,hc3,hc4,O8,hc6,O9⟩:=I5 hB;clear hB hw;have hw1:=hx.holds)|((go_at_call 74;refine(cT.out _ _ hw1 hle).mono ?_;rintro e w2 ⟨rfl,hb2⟩;have x2:=hx.step (hb2.mono hx.below.size) (hw1.below hb2);have hw2:=x2.holds))|((go_at_call 75;refine(cF.out _ _ hw2 hle).mono ?_;rintro e w3 ⟨rfl,hb3⟩;replace x2:=x2.step (hb3.mono x2.below.size) (hw2.below hb3))))
  go_ret
  exact⟨rfl,x2.below⟩
end
end Go.Proofs.YtbliehinagkldaaGreatDoor
