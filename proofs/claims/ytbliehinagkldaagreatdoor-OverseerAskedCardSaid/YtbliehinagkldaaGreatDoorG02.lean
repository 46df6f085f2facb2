/- Lemmas and walks on which the claims of this seat lean (names and blanks made short by a program): Cmp Law4b NData NMake OData OLine OTown ORef2a ORef2b ORef2c OSameT Tr5 Tr8 OHdH OHdA OApp OSl ORef2d ORef2e ORef2f ORef2g Tr10 Tr11 Tr13 Ref4g Ref4i Ref4k. -/
import Derived.Test.YtbliehinagkldaaGreatDoorG01
import Derived.Deep.DeepCutAuto
import Derived.Laws.EntriesVeiled
import Derived.StillTail
import Derived.ArgAppend
import Derived.Laws.Rows
import Derived.Lib.SliceRun
import Derived.Deep.CutBlock

set_option linter.all false
set_option maxRecDepth 100000
set_option maxHeartbeats 16000000
open Go.Lib renaming hid → fe6
open List renaming getElem?_cons_zero → fe8, getElem?_cons_succ → fe9, getElem?_toArray → ff0, getD_eq_getElem?_getD → ff3, length_append → ff4, length_cons → ff8, getElem?_eq_getElem → fg0, length_map → fg5, length_take → fg6, take_of_length_le → fg7
open Nat renaming le_refl → fh0, le_trans → fh1, zero_le → fh3
open Int renaming toNat_natCast → fh8
open Bool renaming and_eq_true → fh9
namespace Go.Proofs.YtbliehinagkldaaGreatDoor
section
open Go.RowKit
attribute [local go_sem] j4.drew j4.alloc j4.drewN WB.holds
theorem bs5 (n:Int) (w:World):Calls Tryz.prog 144 #[.int .i64 n] w fun e w'=>e= .returned (.bool false)∧w=w':=by
 go_enter Tryz.func144,Tryz.ntmps144
 go_wp2
 go_ret
 exact⟨by simp,rfl⟩
def aH1 (a b:Int):Int:=if a<b then-1 else if b<a then 1 else 0
theorem cL3 (a b:Int) (w:World):Calls Tryz.prog 97 #[.int .i64 a,.int .i64 b] w fun e w'=>e= .returned (.int .i64 (aH1 a b))∧w=w':=by
 cases h1:decide (a<b)
 ·cases h2:decide (b<a)
  ·have hc:aH1 a b=0:=by unfold aH1;simp at h1 h2;rw[if_neg (by omega),if_neg (by omega)]
   go_enter Tryz.func97,Tryz.ntmps97
   go_wp2_with(first|(go_at_call 144;refine(bs5 _ _).mono ?_;rintro e w' ⟨rfl,rfl⟩))
   go_ret
   exact⟨by rw[hc];rfl,rfl⟩
  ·have hc:aH1 a b=1:=by unfold aH1;simp at h1 h2;rw[if_neg (by omega),if_pos (by omega)]
   go_enter Tryz.func97,Tryz.ntmps97
   go_wp2_with(first|(go_at_call 144;refine(bs5 _ _).mono ?_;rintro e w' ⟨rfl,rfl⟩))
   go_ret
   exact⟨by rw[hc];rfl,rfl⟩
 ·have hc:aH1 a b= -1:=by unfold aH1;simp at h1;rw[if_pos (by omega)]
  go_enter Tryz.func97,Tryz.ntmps97
  go_wp2_with(first|(go_at_call 144;refine(bs5 _ _).mono ?_;rintro e w' ⟨rfl,rfl⟩))
  go_ret
  exact⟨by rw[hc];rfl,rfl⟩
def cmpL:List Int→List Int→Int
 |[],[]=>0
 |[],_::_=> -1
 |_::_,[]=>1
 |a::l,b::m=>if aH1 a b=0 then cmpL l m else aH1 a b
theorem cE8 (a b:Int): -1≤aH1 a b∧aH1 a b≤1:=by
 unfold aH1
 split
 ·omega
 ·split<;>omega
theorem cY0 {xs ys:List Int} {k:Nat} {x y:Int} (hx:At xs k x) (hy:At ys k y):cmpL (xs.drop k) (ys.drop k)=if aH1 x y=0 then cmpL (xs.drop (k+1)) (ys.drop (k+1))else aH1 x y:=by
 rw[show xs.drop k=x::xs.drop (k+1)by obtain⟨h1,h2⟩:=hx.get;rw[←h2];exact List.drop_eq_getElem_cons h1,show ys.drop k=y::ys.drop (k+1)by obtain⟨h1,h2⟩:=hy.get;rw[←h2];exact List.drop_eq_getElem_cons h1];rfl
theorem cx6 (va vb:Value) (xs ys:List Int) (H:j5) (w:World) (hw:j4 H w) (ha:Sl H va xs) (hb:Sl H vb ys):
 Calls Tryz.prog 62 #[va,vb] w (I1 w (.int .i64 (cmpL xs ys))):=by
 obtain⟨aa,ca,rfl,ha1,ha2⟩:=ha.form
 obtain⟨ab,cb,rfl,hb1,hb2⟩:=hb.form
 obtain⟨C,hC⟩:∃C,Hid (C=cmpL xs ys):=⟨_,rfl⟩
 rw[←hC.out]
 go_enter Tryz.func62,Tryz.ntmps62
 go_wp2
 go_loopw [5,6,7,8,11] (fun _ _ _ _ i wr=>∃k:Nat,k≤xs.length∧k≤ys.length∧i= .int .i64 k∧Hid (C=cmpL (xs.drop k) (ys.drop k))∧Ext w H wr H) (fun _ _ _ _ i _=>xs.length-(intOf i).toNat)
 case atStart=>exact⟨0,fh3 _,fh3 _,rfl,hC,Ext.refl hw⟩
 case round=>
  obtain⟨k,hk,hk2,rfl,hok,E5⟩:=hrel
  have hwr:=E5.holds
  by_cases hlt:k<xs.length
  ·obtain⟨x,hxk⟩:=At.mk hlt
   obtain⟨b,o,c,he,hi,hr⟩:=ha.int hxk
   cases he
   by_cases hlt2:k<ys.length
   ·obtain⟨y,hyk⟩:=At.mk hlt2
    obtain⟨b',o',c',he,hi',hr'⟩:=hb.int hyk
    cases he
    have hst:=cY0 hxk hyk
    have hbd:=cE8 x y
    replace hok:=hok.out
    rw[hst]at hok
    obtain⟨D,hD⟩:∃D,Hid (D=aH1 x y):=⟨_,rfl⟩
    rw[←hD.out]at hok hbd
    have hcc:∀w:World,Calls Tryz.prog 97 #[.int .i64 x,.int .i64 y] w fun e w'=>e= .returned (.int .i64 D)∧w=w':=fun w=>by rw[hD.out];exact cL3 x y w
    replace hcc:=fe6 hcc
    cases hne:(D==0)
    ·rw[if_neg (by simpa using hne)]at hok
     have hne':=hne
     rw[←hok]at*
     replace hok:=fe6 hok
     have hnz:(C != 0)=true:=by simp only[bne,hne];rfl
     clear hne' hst
     go_wp2_with(first|(go_at_call 97;refine(hcc.out _).mono ?_;rintro e w' ⟨rfl,rfl⟩))
     go_ret
     exact⟨rfl,E5.below⟩
    ·rw[if_pos (by simpa using hne)]at hok
     replace hok:=fe6 hok
     have hD0:D=0:=by simpa using hne
     subst hD0
     go_wp2_with(first|(go_at_call 97;refine(hcc.out _).mono ?_;rintro e w' ⟨rfl,rfl⟩))
     go_roundw
     case rel=>exact⟨k+1,by omega,by omega,by go_num,hok,E5⟩
     case measure=>simp[intOf];omega
   ·have:C=1:=by
     rw[hok.out,List.drop_eq_nil_of_le (by omega:ys.length≤k),show xs.drop k=xs[k]::xs.drop (k+1)from List.drop_eq_getElem_cons hlt];rfl
    subst this
    go_wp2
    go_ret
    exact⟨rfl,E5.below⟩
  ·by_cases hlt2:xs.length<ys.length
   ·have:C= -1:=by
     rw[hok.out,List.drop_eq_nil_of_le (by omega:xs.length≤k),show ys.drop k=ys[k]::ys.drop (k+1)from List.drop_eq_getElem_cons (by omega)];rfl
    subst this
    go_wp2
    go_ret
    exact⟨rfl,E5.below⟩
   ·have:C=0:=by
     rw[hok.out,List.drop_eq_nil_of_le (by omega:xs.length≤k),List.drop_eq_nil_of_le (by omega:ys.length≤k)];rfl
    subst this
    go_wp2
    go_ret
    exact⟨rfl,E5.below⟩
end
section
open Go.RowKit
attribute [local go_sem] j4.drew j4.alloc j4.drewN WB.holds
def bs6 (h:A9):Bool:=decide (40<h.ms.length) || (decide (40<h.bs.length) || decide (40<h.ts.length))
theorem dm5 (vm vb vt:Value) (h:A9) (H:j5) (w:World) (hw:j4 H w) (hh:Hou H vm vb vt h):
 Calls Tryz.prog 84 #[U2 vm vb vt h] w (I1 w (.bool (bs6 h))):=by
 obtain⟨am,cm,rfl,hm1,hm2⟩:=hh.m.form
 obtain⟨ab,cb,rfl,hb1,hb2⟩:=hh.b.form
 obtain⟨at',ct,rfl,ht1,ht2⟩:=hh.t.form
 have key:Hid (bs6 h=(decide (40<(h.ms.length:Int)) || (decide (40<(h.bs.length:Int)) || decide (40<(h.ts.length:Int))))):=by
  show _=_
  unfold bs6
  congr 1
  ·exact decide_eq_decide.2 (by omega)
  ·congr 1
   ·exact decide_eq_decide.2 (by omega)
   ·exact decide_eq_decide.2 (by omega)
 cases g1:decide (40<(h.ms.length:Int))
 all_goals cases g2:decide (40<(h.bs.length:Int))
 all_goals cases g3:decide (40<(h.ts.length:Int))
 all_goals
  rw[g1,g2,g3]at key
  go_enter Tryz.func84,Tryz.ntmps84
  go_wp2_with(first|(refine af8 rfl _ rfl (Ext.refl hw) ?_;intro B w1 H1 hle hx hB hBw;obtain⟨hc0,hc1,hc2,hc3⟩:=R6 hB;clear hB hw;have hw1:=hx.holds))
  go_ret
  exact⟨M0 (by rw[key.out];rfl),hx.below⟩
end
section
open Go.RowKit
instance ef0:Enc ByteArray where
 sz:=1
 M4:=16
 rep:=fun _ s cs=>cs=[.string s]∧s.size≤140737488355328
 len:=fun h=>by rw[h.1];rfl
 mono:=fun _ h=>h
 one:=fun h u hu=>by rw[h.1]at hu;simp at hu;subst hu;rfl
theorem Sl.str {H:j5} {v:Value} {xs:List ByteArray} {k:Nat} {x:ByteArray} (h:Sl H v xs) (hx:At xs k x):
 ∃b o c,v= .slice (some ⟨b,o,none⟩) xs.length c∧x.size≤140737488355328∧∀w,j4 H w→w.cell? ⟨b,o+k,none⟩=some (.string x):=by
 obtain⟨b,o,c,ds,hv,⟨hd,hi⟩,hc⟩:=h.get hx
 refine⟨b,o,c,hv,hi,fun w hw=> ?_⟩
 have:=hc w hw 0 (.string x) (by rw[hd];rfl)
 simpa [Enc.sz]using this
theorem bi0:af2 Tryz.prog 33 9 ByteArray:= .mk' (.string ⟨#[]⟩) Tryz.underlying33 (by kernel_rfl) rfl (by decide)
def C8 (s:ByteArray):List UInt8:=s.data.toList
theorem be8 (s:ByteArray):(C8 s).length=s.size:=rfl
def J8 (l:List UInt8):ByteArray:=⟨l.toArray⟩
theorem wrap64_in (n:Int) (h1: -9223372036854775808≤n) (h2:n≤9223372036854775807):wrap64 n=n:=by
 unfold wrap64;omega
theorem M7 {w:World} {b i:Nat} {cs:Array Value} {T:TypeId} {fr:Nat × Nat} (hb:w.heap[b]? =some (.cells cs T fr)) (v:Value):
 (w.setCell ⟨b,i,none⟩ v).heap[b]? =some (.cells (cs.setIfInBounds i v) T fr):=by
 simp[World.setCell,Array.getElem?_modify,hb]
theorem N8 {P:Program} {fn:Func} {p q:Tmp} {ty:TypeId} (h:fn.results= #[.cell p ty,.tmp q]) (tmps:Array Value) (w:World) (g:Nat) (t:TypeId) (cs:Array Value) (fr:Nat × Nat) (d:TypeDesc)
 (hp:tmps.getD p undef= .pointer (some ⟨g,0,none⟩)) (hg:w.heap[g]? =some (.cells cs t fr))
 (hu:P.underlying ty=some d) (hd:(match d with| .struct _| .array _ _=>true|_=>false)=true) (hi:(P.info? ty).map (·.size)=some cs.size):
 (results fn tmps).run P w= .ok (.tuple #[.agg cs,tmps.getD q undef]) w:=by
 have hp':tmps[p]?.getD undef= .pointer (some ⟨g,0,none⟩):=by simpa using hp
 simp[results,h,hp',asAddr,run_loadVar_row w g t ty cs fr d hg hu hd hi]
end
section
open Go.RowKit
instance ef1:Enc Mld where
 sz:=3
 M4:=24
 rep:=fun _ m cs=>cs=[.int .i64 m.pg,.int .i64 m.us,.int .i64 m.br]∧K8 m.pg∧K8 m.us∧K8 m.br
 len:=fun h=>by rw[h.1];rfl
 mono:=fun _ h=>h
 one:=fun h u hu=>by rw[h.1]at hu;simp at hu;rcases hu with rfl|rfl|rfl<;>rfl
theorem Sl.mld {H:j5} {v:Value} {xs:List Mld} {k:Nat} {x:Mld} (h:Sl H v xs) (hx:At xs k x):
 ∃b o c,v= .slice (some ⟨b,o,none⟩) xs.length c∧(K8 x.pg∧K8 x.us∧K8 x.br)∧
  (∀w,j4 H w→w.cell? ⟨b,o+k*3,none⟩=some (.int .i64 x.pg))∧(∀w,j4 H w→w.cell? ⟨b,o+k*3+1,none⟩=some (.int .i64 x.us))∧(∀w,j4 H w→w.cell? ⟨b,o+k*3+2,none⟩=some (.int .i64 x.br)):=by
 obtain⟨b,o,c,ds,hv,⟨hd,hi⟩,hc⟩:=h.get hx
 refine⟨b,o,c,hv,hi,fun w hw=> ?_,fun w hw=> ?_,fun w hw=> ?_⟩
 ·exact hc w hw 0 _ (by rw[hd];rfl)
 ·exact hc w hw 1 _ (by rw[hd];rfl)
 ·exact hc w hw 2 _ (by rw[hd];rfl)
structure Sho (H:j5) (vm vo va:Value) (s:G5):Prop where
 m:Sl H vm s.mo
 o:Sl H vo s.wo
 a:Sl H va s.wa
 f:K8 s.fr
abbrev aq3 (vm vo va:Value) (s:G5):Value:= .agg #[vm,vo,va,.int .i64 s.fr]
theorem Sho.mono {H H':j5} (k:D8 H H') {vm vo va:Value} {s:G5} (x:Sho H vm vo va s):Sho H' vm vo va s:=⟨x.m.mono k,x.o.mono k,x.a.mono k,x.f⟩
theorem V6 {H:j5} {B:Nat} {vm vo va:Value} {s:G5} {t:TypeId} (e:H B=some (.cells (aq3 vm vo va s).cells t (0,0))):
 (∀w,j4 H w→w.cell? ⟨B,0,none⟩=some vm)∧(∀w,j4 H w→w.cell? ⟨B,1,none⟩=some vo)∧(∀w,j4 H w→w.cell? ⟨B,2,none⟩=some va)∧(∀w,j4 H w→w.cell? ⟨B,3,none⟩=some (.int .i64 s.fr)):=
 ⟨fun _ hw=>D7 e hw 0,fun _ hw=>D7 e hw 1,fun _ hw=>D7 e hw 2,fun _ hw=>D7 e hw 3⟩
theorem aQ1:af2 Tryz.prog 27 96 Mld:= .mk' (.agg #[.int .i64 0,.int .i64 0,.int .i64 0]) Tryz.underlying27 (by kernel_rfl) rfl (by decide)
end
section
def U7 (o:List (List UInt8)) (b:UInt8):List (List UInt8):=if b=32 then o++[[]]else o.dropLast++[o.getLastD []++[b]]
def R9 (s:List UInt8):List (List UInt8):=s.foldl U7 [[]]
def C9 (s:ByteArray):List ByteArray:=(R9 (C8 s)).map J8
theorem ap3 (s:List UInt8) (b:UInt8):R9 (s++[b])=U7 (R9 s) b:=by unfold R9;rw[List.foldl_append];rfl
theorem bs7 (o:List (List UInt8)) (b:UInt8):U7 o b≠[]:=by unfold U7;split<;>simp
theorem aB3 (s:List UInt8):R9 s≠[]:=by
 have key:∀r:List UInt8,R9 r.reverse≠[]:=fun r=>by
  cases r with
  |nil=>simp[R9]
  |cons b r=>rw[List.reverse_cons,ap3];exact bs7 _ _
 have:=key s.reverse
 rwa [List.reverse_reverse]at this
def ah6 (l:List ByteArray) (k:Nat):List UInt8:=(List.range k).flatMap fun i=>(if i=0 then []else [32])++C8 (l.getD i ⟨#[]⟩)
def J9 (l:List ByteArray):ByteArray:=J8 (ah6 l l.length)
theorem aE8 (l:List ByteArray) (k:Nat):ah6 l (k+1)=ah6 l k++((if k=0 then []else [32])++C8 (l.getD k ⟨#[]⟩)):=by
 unfold ah6;rw[List.range_succ,List.flatMap_append];simp
def W9 (b:UInt8):Bool:=decide (48≤b.toNat)&&decide (b.toNat≤57)
def aA4 (l:List UInt8):Int:=l.foldl (fun n b=>n*10+((b.toNat:Int)-48)) 0
theorem aZ2 (l:List UInt8) (b:UInt8):aA4 (l++[b])=aA4 l*10+((b.toNat:Int)-48):=by unfold aA4;rw[List.foldl_append];rfl
def am9 (l:List UInt8) (neg:Bool):Option Int:=
 if l.length<1∨6<l.length∨(l.head?=some 48∧(1<l.length∨neg=true))then none else
 if l.all W9 then some (if neg then-aA4 l else aA4 l)else none
def O5 (w:ByteArray):Option Int:=match C8 w with
 |45::r=>am9 r true
 |r=>am9 r false
def T9:List ByteArray→Option (List Int)
 |[]=>some []
 |w::l=>match O5 w,T9 l with
  |some n,some r=>some (n::r)
  |_,_=>none
structure F7 where
 kind:Int
 of:Int
 word:ByteArray
 text:ByteArray
 nums:List Int
 deriving DecidableEq
def E9:F7:=⟨0,0,⟨#[]⟩,⟨#[]⟩,[]⟩
instance:Inhabited F7:=⟨E9⟩
def R7:ByteArray:=⟨#[109,97,99,104,105,110,101]⟩
def Y6:ByteArray:=⟨#[115,116,111,112,115]⟩
def ac6:ByteArray:=⟨#[116,114,97,105,110]⟩
def Q8:ByteArray:=⟨#[108,101,97,118,101,115]⟩
def Z0:ByteArray:=⟨#[98,117,110,100,108,101]⟩
def ar9:ByteArray:=⟨#[103,97,112]⟩
def R8:ByteArray:=⟨#[99,97,115,116]⟩
def O6:ByteArray:=⟨#[98,114,111,107,101]⟩
def Y2:ByteArray:=⟨#[119,97,110,116]⟩
def aZ3:ByteArray:=⟨#[115,117,114,101]⟩
def aI3:ByteArray:=⟨#[102,101,119,101,115,116]⟩
def aZ4:ByteArray:=⟨#[116,111,108,100]⟩
def aZ5:ByteArray:=⟨#[119,97,105,116]⟩
def aO9:ByteArray:=⟨#[115,112,97,114,101]⟩
def bs8:ByteArray:=⟨#[110,101,119]⟩
def aI4:ByteArray:=⟨#[119,111,114,108,100,115]⟩
def aN6:ByteArray:=⟨#[108,101,102,116]⟩
def bi1:ByteArray:=⟨#[116,101,115,116]⟩
def Z6:ByteArray:=⟨#[114,101,97,100,115]⟩
def wAt:ByteArray:=⟨#[97,116]⟩
def ad5:ByteArray:=⟨#[108,105,110,101]⟩
def wIs:ByteArray:=⟨#[105,115]⟩
def au8:ByteArray:=⟨#[110,111,116]⟩
def U3 (w:ByteArray):Int:=
 if w=ac6∨w=ar9∨w=R8∨w=O6 then 1 else if w=Y6∨w=Q8∨w=Y2 then 2 else if w=R7∨w=Z0 then 3 else-1
def Y3 (w:ByteArray):Int:=
 if w=aZ3∨w=aI3∨w=aZ4∨w=aO9∨w=bs8∨w=aI4∨w=bi1 then 0 else if w=aZ5∨w=aN6 then 1 else-1
def A7 (p:List ByteArray):F7:=match T9 p.tail with
 |none=>E9
 |some ns=>
  if U3 (p.headD ⟨#[]⟩)=(ns.length:Int)then⟨1,0,p.headD ⟨#[]⟩,J9 p,ns⟩
  else if Y3 (p.headD ⟨#[]⟩)=(ns.length:Int)then⟨2,0,p.headD ⟨#[]⟩,J9 p,ns⟩
  else E9
def ac8 (p:List ByteArray):F7:=
 if(A7 p).kind≠0 then A7 p else
 match p with
 |w::nw::rest=>
  match O5 nw with
  |none=>E9
  |some n=>
   if w=Z6 then(if rest=[]then{E9 with kind:=4,of:=n}else E9)
   else if w=wAt then(if rest≠[]∧(A7 rest).kind=2 then{A7 rest with kind:=3,of:=n}else E9)
   else if w=ad5 then
    (match rest with
    |is::e=>if e=[]∨is≠wIs then E9 else if e=[au8]then{E9 with kind:=6,of:=n}else if(A7 e).kind=1 then{A7 e with kind:=5,of:=n}else E9
    |[]=>E9)
   else E9
 |_=>E9
def A8 (s:ByteArray):F7:=ac8 (C9 s)
end
section
structure D5 where
 h:A9
 s:G5
 deriving DecidableEq,Inhabited
def F6 (t:D5):Bool:=valid t.h&&Y5 t.s
def aH2 (b:Bool):Int:=if b then 0 else 120
def nth (l:List Int) (k:Nat):Int:=l.getD k 0
def inL {α:Type} (l:List α) (i:Int):Bool:=decide (0≤i)&&decide (i<(l.length:Int))
def M5 (t:D5) (w:ByteArray) (a:List Int):Option D5:=
 if w=R7 then some {t with h:={t.h with ms:=t.h.ms++[⟨nth a 0,nth a 1,nth a 2⟩]}}
 else if w=Y6 then(if inL t.h.ms (nth a 0)then some {t with h:={t.h with ms:=t.h.ms.set (nth a 0).toNat {t.h.ms.getD (nth a 0).toNat default with s:=nth a 1}}}else none)
 else if w=ac6 then some {t with h:={t.h with ts:=t.h.ts++[nth a 0]}}
 else if w=Q8 then(if inL t.h.ts (nth a 0)then some {t with h:={t.h with ts:=t.h.ts.set (nth a 0).toNat (nth a 1)}}else none)
 else if w=Z0 then some {t with h:={t.h with bs:=t.h.bs++[⟨nth a 0,nth a 1,nth a 2⟩]}}
 else if w=ar9 then some {t with h:={t.h with ch:=nth a 0}}
 else if w=R8 then(if inL t.s.mo (nth a 0)∧(mld t.s (nth a 0).toNat).br≠1 then some {t with s:={t.s with mo:=t.s.mo.set (nth a 0).toNat {mld t.s (nth a 0).toNat with us:=(mld t.s (nth a 0).toNat).us+1}}}else none)
 else if w=O6 then(if inL t.s.mo (nth a 0)∧(mld t.s (nth a 0).toNat).br≠1 then some {t with s:={t.s with mo:=t.s.mo.set (nth a 0).toNat {mld t.s (nth a 0).toNat with br:=1}}}else none)
 else if w=Y2 then(if inL t.s.wa (nth a 0)then some {t with s:={t.s with wa:=t.s.wa.set (nth a 0).toNat (nth a 1)}}else none)
 else some t
def changed (t:D5) (w:ByteArray) (a:List Int):D5 × Bool:=match M5 t w a with
 |some o=>if F6 o then(o,true)else(t,false)
 |none=>(t,false)
def M8 (t:D5) (x:F7):D5 × Bool:=if x.kind=1 then changed t x.word x.nums else(t,false)
def Z5 (t:D5):List F7→D5
 |[]=>t
 |x::l=>Z5 (M8 t x).1 l
def O3 (t:D5):List F7→List Bool
 |[]=>[]
 |x::l=>(M8 t x).2::O3 (M8 t x).1 l
theorem ck6 (t:D5) (l:List F7) (x:F7):Z5 t (l++[x])=(M8 (Z5 t l) x).1:=by
 induction l generalizing t with
 |nil=>rfl
 |cons y l ih=>exact ih _
theorem aE9 (t:D5) (l:List F7):(O3 t l).length=l.length:=by
 induction l generalizing t with
 |nil=>rfl
 |cons y l ih=>show(_::O3 _ l).length=_;rw[ff8,ih];rfl
end
section
open Go.RowKit
attribute [local go_sem] j4.drew j4.alloc j4.drewN WB.holds Oper.semAt_some
theorem ag9 (n lo hi:Int) (w:World):Calls Tryz.prog 115 #[.int .i64 n,.int .i64 lo,.int .i64 hi] w fun e w'=>e= .returned (.bool (within n lo hi))∧w=w':=by
 go_enter Tryz.func115,Tryz.ntmps115
 go_wp2_with(first|(go_at_call 26;refine(aD4 _ _ _ _).mono ?_;rintro e w2 ⟨rfl,rfl⟩))
 go_ret
 exact⟨rfl,rfl⟩
theorem cx7 (vm vo va:Value) (s:G5) (n:Int) (H:j5) (w:World) (hw:j4 H w) (hs:Sho H vm vo va s):
 Calls Tryz.prog 116 #[aq3 vm vo va s,.int .i64 n] w (I1 w (.bool (within n 0 ((s.wa.length:Int)-1)))):=by
 obtain⟨aa,ca,rfl,ha1,ha2⟩:=hs.a.form
 go_enter Tryz.func116,Tryz.ntmps116
 go_wp2_with(first|(refine af8 rfl _ rfl (Ext.refl hw) ?_;intro B w1 H1 hle hx hB hBw;obtain⟨hc0,hc1,hc2,hc3⟩:=V6 hB;clear hB hw;have hw1:=hx.holds)|((go_at_call 115;refine(ag9 _ _ _ _).mono ?_;rintro e w' ⟨rfl,rfl⟩)))
 go_ret
 exact⟨rfl,hx.below⟩
theorem dm6 {nm:Nat} {x:List Int} (h:x.length≠nm):ai5 nm x=false:=by unfold ai5;rw[decide_eq_false h];rfl
theorem dm7 {nm:Nat} {x:List Int} {k:Nat} {n:Int} (hx:At x k n) (h:within n 0 12=false):ai5 nm x=false:=by
 unfold ai5
 rw[hx.az5 (p:=fun n=>within n 0 12) h]
 simp
theorem cY1 {nm:Nat} {x:List Int} (h1:x.length=nm) (h2:(x.all fun n=>within n 0 12)=true):ai5 nm x=true:=by unfold ai5;rw[decide_eq_true h1,h2];rfl
theorem cL4 (vm vo va:Value) (s:G5) (H:j5) (w:World) (hw:j4 H w) (hs:Sho H vm vo va s):
 Calls Tryz.prog 75 #[aq3 vm vo va s] w (I1 w (.int .i64 (ax6 (Y5 s)))):=by
 obtain⟨am,cm,rfl,hm1,hm2⟩:=hs.m.form
 obtain⟨ao,co,rfl,ho1,ho2⟩:=hs.o.form
 obtain⟨aa,ca,rfl,ha1,ha2⟩:=hs.a.form
 obtain⟨R,hR⟩:∃R,R=ax6 (Y5 s):=⟨_,rfl⟩
 rw[←hR]
 have hbad:¬Y0 s→R=20:=fun h=>by rw[hR];exact cE1 h
 have hgood:Y0 s→R=0:=fun h=>by rw[hR];exact cj3 h
 clear hR
 have hcs:(3:Int)<s.wa.length∨(¬(3:Int)<s.wa.length∧(5:Int)<s.mo.length)∨(¬(3:Int)<s.wa.length∧¬(5:Int)<s.mo.length∧(6:Int)<s.wo.length)∨
  (¬(3:Int)<s.wa.length∧¬(5:Int)<s.mo.length∧¬(6:Int)<s.wo.length∧within s.fr 1 12=false)∨(¬(3:Int)<s.wa.length∧¬(5:Int)<s.mo.length∧¬(6:Int)<s.wo.length∧within s.fr 1 12=true):=by
  cases within s.fr 1 12<;>simp<;>omega
 rcases hcs with g1|⟨g1,g2⟩|⟨g1,g2,g3⟩|⟨g1,g2,g3,g4⟩|⟨g1,g2,g3,g4⟩
 iterate 4
  ·have hRb:=hbad (fun v=>by have h1:=v.w3;have h2:=v.m5;have h3:=v.o6;have h4:=v.fr;first|omega|(rw[h4]at g4;cases g4))
   subst hRb
   clear hbad hgood
   go_enter Tryz.func75,Tryz.ntmps75
   go_wp2_with(first|(refine af8 rfl _ rfl (Ext.refl hw) ?_;intro B w1 H1 hle hx hB hBw;obtain⟨hc0,hc1,hc2,hc3⟩:=V6 hB;clear hB hw;have hw1:=hx.holds)|((go_at_call 115;refine(ag9 _ _ _ _).mono ?_;rintro e w' ⟨rfl,rfl⟩)))
   go_ret
   exact⟨rfl,hx.below⟩
 replace hbad:=fe6 hbad
 replace hgood:=fe6 hgood
 go_enter Tryz.func75,Tryz.ntmps75
 go_upto_region 4 with(first|(refine af8 rfl _ rfl (Ext.refl hw) ?_;intro B w1 H1 hle hx hB hBw;obtain⟨hc0,hc1,hc2,hc3⟩:=V6 hB;clear hB hw;have hw1:=hx.holds)|(go_at_call 115;refine(ag9 _ _ _ _).mono ?_;rintro e w' ⟨rfl,rfl⟩))
 have hs1:=hs.mono hle
 have hsa:=hs1.a
 have hsm:=hs1.m
 have hso:=hs1.o
 replace hs1:=fe6 hs1
 clear hs hw1 hBw hle
 go_loopw [3] (fun i wr=>∃k:Nat,k≤s.wa.length∧i= .int .i64 (k:Int)∧Hid (ao4 (fun n=>within n 0 12) s.wa k)∧Ext w H wr H1) (fun i _=>s.wa.length-(intOf i).toNat)
 case atStart=>exact⟨0,fh3 _,rfl,fe6 (ao4.zero _ _),hx⟩
 case round=>
  clear hx
  obtain⟨k,hk,rfl,hok,xr⟩:=hrel
  have hwr:=xr.holds
  have hk0:(0:Int)≤(k:Int):=by omega
  by_cases hlk:k<s.wa.length
  ·obtain⟨n,hn⟩:=At.mk hlk
   obtain⟨b,o,c,he,hi,hr⟩:=hsa.int hn
   cases he
   have hk1:(k:Int)<(s.wa.length:Int):=by omega
   cases hq:within n 0 12
   ·have hRb:=hbad.out (fun v=>by have:=v.wa;rw[hn.az5 (p:=fun n=>within n 0 12) hq]at this;cases this)
    subst hRb
    clear hbad hgood hn
    go_wp2_with(first|((go_at_call 115;refine(ag9 _ _ _ _).mono ?_;rintro e w' ⟨rfl,rfl⟩)))
    go_ret
    exact⟨rfl,xr.below⟩
   ·have hok2:=fe6 (hok.out.succ hn hq)
    clear hn hok
    go_wp2_with(first|((go_at_call 115;refine(ag9 _ _ _ _).mono ?_;rintro e w' ⟨rfl,rfl⟩)))
    go_roundw
    case rel=>exact⟨k+1,hlk,by go_num,hok2,xr⟩
    case measure=>simp[intOf];omega
  ·have hA:=fe6 (hok.out.all (by omega))
   have hk1:¬(k:Int)<(s.wa.length:Int):=by omega
   clear hok
   go_upto_region 9 with fail
   clear hk1 hk0 hlk hk
   go_loopw [4,5] (fun i _ wr=>∃k:Nat,k≤s.mo.length∧i= .int .i64 (k:Int)∧Hid (ao4 (am5 s.wa.length) s.mo k)∧Ext w H wr H1) (fun i _ _=>s.mo.length-(intOf i).toNat)
   case atStart=>exact⟨0,fh3 _,rfl,fe6 (ao4.zero _ _),xr⟩
   case round=>
    clear xr hwr
    obtain⟨k,hk,rfl,hok,xr⟩:=hrel
    have hwr:=xr.holds
    have hk0:(0:Int)≤(k:Int):=by omega
    by_cases hlk:k<s.mo.length
    ·obtain⟨x,hxk⟩:=At.mk hlk
     obtain⟨b,o,c,he,⟨i1,i2,i3⟩,r1,r2,r3⟩:=hsm.mld hxk
     cases he
     have hk1:(k:Int)<(s.mo.length:Int):=by omega
     have cP:∀(b:Bool),within x.pg 0 ((s.wa.length:Int)-1)=b→∀um uo ua:Value,Sho H1 um uo ua s→∀W,j4 H1 W→Calls Tryz.prog 116 #[aq3 um uo ua s,.int .i64 x.pg] W (I1 W (.bool b)):=fun b hb um uo ua h W hW=>by rw[←hb];exact cx7 _ _ _ _ _ _ _ hW h
     cases q1:within x.pg 0 ((s.wa.length:Int)-1)
     ·replace cP:=fe6 (cP _ q1)
      have hok1:am5 s.wa.length x=false:=by unfold am5;rw[q1];rfl
      clear q1
      have hRb:=hbad.out (fun v=>by have:=v.mo;rw[hxk.az5 hok1]at this;cases this)
      subst hRb
      clear hbad hgood hxk hok
      go_wp2_with(first|((go_at_call 115;refine(ag9 _ _ _ _).mono ?_;rintro e w' ⟨rfl,rfl⟩))|((go_at_call 116;refine(cP.out _ _ _ hs1.out _ (hwr.alloc _)).mono ?_;rintro e w2 ⟨rfl,hbw⟩;have hw2:=(hwr.alloc _).below hbw;have hcb:=bh7 hbw;have x2:=(xr.alloc _).step (hbw.mono (xr.alloc _).below.size) hw2)))
      go_ret
      exact⟨rfl,x2.below⟩
     ·replace cP:=fe6 (cP _ q1)
      cases q2:within x.us 0 12
      ·have hok1:am5 s.wa.length x=false:=by unfold am5;rw[q1,q2];rfl
       clear q1
       have hRb:=hbad.out (fun v=>by have:=v.mo;rw[hxk.az5 hok1]at this;cases this)
       subst hRb
       clear hbad hgood hxk hok
       go_wp2_with(first|((go_at_call 115;refine(ag9 _ _ _ _).mono ?_;rintro e w' ⟨rfl,rfl⟩))|((go_at_call 116;refine(cP.out _ _ _ hs1.out _ (hwr.alloc _)).mono ?_;rintro e w2 ⟨rfl,hbw⟩;have hw2:=(hwr.alloc _).below hbw;have hcb:=bh7 hbw;have x2:=(xr.alloc _).step (hbw.mono (xr.alloc _).below.size) hw2)))
       go_ret
       exact⟨rfl,x2.below⟩
      ·cases q3:within x.br 0 1
       ·have hok1:am5 s.wa.length x=false:=by unfold am5;rw[q1,q2,q3];rfl
        clear q1
        have hRb:=hbad.out (fun v=>by have:=v.mo;rw[hxk.az5 hok1]at this;cases this)
        subst hRb
        clear hbad hgood hxk hok
        go_wp2_with(first|((go_at_call 115;refine(ag9 _ _ _ _).mono ?_;rintro e w' ⟨rfl,rfl⟩))|((go_at_call 116;refine(cP.out _ _ _ hs1.out _ (hwr.alloc _)).mono ?_;rintro e w2 ⟨rfl,hbw⟩;have hw2:=(hwr.alloc _).below hbw;have hcb:=bh7 hbw;have x2:=(xr.alloc _).step (hbw.mono (xr.alloc _).below.size) hw2)))
        go_ret
        exact⟨rfl,x2.below⟩
       ·have hok1:am5 s.wa.length x=true:=by unfold am5;rw[q1,q2,q3];rfl
        have hok2:=fe6 (hok.out.succ hxk hok1)
        clear q1 hxk hok hok1
        go_wp2_with(first|((go_at_call 115;refine(ag9 _ _ _ _).mono ?_;rintro e w' ⟨rfl,rfl⟩))|((go_at_call 116;refine(cP.out _ _ _ hs1.out _ (hwr.alloc _)).mono ?_;rintro e w2 ⟨rfl,hbw⟩;have hw2:=(hwr.alloc _).below hbw;have hcb:=bh7 hbw;have x2:=(xr.alloc _).step (hbw.mono (xr.alloc _).below.size) hw2)))
        go_roundw
        case rel=>exact⟨k+1,hlk,by go_num,hok2,x2⟩
        case measure=>simp[intOf];omega
    ·have hM:=fe6 (hok.out.all (by omega))
     have hk1:¬(k:Int)<(s.mo.length:Int):=by omega
     clear hok
     go_upto_region 15 with fail
     clear hk1 hk0 hlk hk
     go_loopw [6] (fun i wr=>∃k:Nat,k≤s.wo.length∧i= .int .i64 (k:Int)∧Hid (ao4 (ai5 s.mo.length) s.wo k)∧Ext w H wr H1) (fun i _=>s.wo.length-(intOf i).toNat)
     case atStart=>exact⟨0,fh3 _,rfl,fe6 (ao4.zero _ _),xr⟩
     case round=>
      clear xr hwr
      obtain⟨k,hk,rfl,hok,xr⟩:=hrel
      have hwr:=xr.holds
      have hk0:(0:Int)≤(k:Int):=by omega
      by_cases hlk:k<s.wo.length
      ·obtain⟨x,hxk⟩:=At.mk hlk
       obtain⟨b,o,c,u,he,hu,r1⟩:=hso.list hxk
       cases he
       obtain⟨bu,cu,rfl,_,_⟩:=hu.form
       have hk1:(k:Int)<(s.wo.length:Int):=by omega
       by_cases hlen:x.length=s.mo.length
       ·have ht:((x.length:Int) != (s.mo.length:Int))=false:=by rw[bne_eq_false_iff_eq];omega
        replace hlen:=fe6 hlen
        go_upto_region 17 with fail
        refine E8 H1 (by kernel_rfl) (by kernel_rfl) hwr (fun hne=> ?_)
        repeat go_big_quiet_step((first|fail))
        refine wpQuiet_nil ?_
        rintro⟨w2,hw2,hb2⟩
        clear hne
        have x2:=xr.step (hb2.mono xr.below.size) hw2
        go_upto_region 20 with fail
        clear ht
        go_loopw [7] (fun i wq=>∃t:Nat,t≤x.length∧i= .int .i64 (t:Int)∧Hid (ao4 (fun n=>within n 0 12) x t)∧Ext w H wq H1) (fun i _=>x.length-(intOf i).toNat)
        case atStart=>exact⟨0,fh3 _,rfl,fe6 (ao4.zero _ _),x2⟩
        case round=>
         clear xr hwr x2
         obtain⟨t,ht,rfl,hot,xq⟩:=hrel
         have hwq:=xq.holds
         have ht0:(0:Int)≤(t:Int):=by omega
         by_cases hlt:t<x.length
         ·obtain⟨n,hn⟩:=At.mk hlt
          obtain⟨b5,o5,c5,he5,hi5,hr5⟩:=hu.int hn
          cases he5
          have ht1:(t:Int)<(x.length:Int):=by omega
          cases hq:within n 0 12
          ·have hRb:=hbad.out (fun v=>by have:=v.wo;rw[hxk.az5 (dm7 hn hq)]at this;cases this)
           subst hRb
           clear hbad hgood hn hot
           go_wp2_with(first|((go_at_call 115;refine(ag9 _ _ _ _).mono ?_;rintro e w' ⟨rfl,rfl⟩)))
           go_ret
           exact⟨rfl,xq.below⟩
          ·have hok2:=fe6 (hot.out.succ hn hq)
           clear hn hot
           go_wp2_with(first|((go_at_call 115;refine(ag9 _ _ _ _).mono ?_;rintro e w' ⟨rfl,rfl⟩)))
           go_roundw
           case rel=>exact⟨t+1,hlt,by go_num,hok2,xq⟩
           case measure=>simp[intOf];omega
         ·have hok2:=fe6 (hok.out.succ hxk (cY1 hlen.out (hot.out.all (by omega))))
          have ht1:¬(t:Int)<(x.length:Int):=by omega
          clear hot hok
          go_wp2_with fail
          go_roundw
          case rel=>exact⟨k+1,hlk,by go_num,hok2,xq⟩
          case measure=>simp[intOf];omega
       ·have ht:((x.length:Int) != (s.mo.length:Int))=true:=by rw[bne_iff_ne];omega
        have hRb:=hbad.out (fun v=>by have:=v.wo;rw[hxk.az5 (dm6 hlen)]at this;cases this)
        subst hRb
        clear hbad hgood hlen
        go_upto_region 17 with fail
        refine E8 H1 (by kernel_rfl) (by kernel_rfl) hwr (fun hne=> ?_)
        repeat go_big_quiet_step((first|fail))
        refine wpQuiet_nil ?_
        rintro⟨w2,hw2,hb2⟩
        clear hne
        have x2:=xr.step (hb2.mono xr.below.size) hw2
        go_wp2_with fail
        go_ret
        exact⟨rfl,x2.below⟩
      ·have hk1:¬(k:Int)<(s.wo.length:Int):=by omega
       have hRg:=hgood.out ⟨by omega,by omega,by omega,g4,hA.out,hM.out,hok.out.all (by omega)⟩
       subst hRg
       go_wp2_with fail
       go_ret
       exact⟨rfl,xr.below⟩
end
section
open Go.RowKit
attribute [local go_sem] j4.drew j4.alloc j4.drewN WB.holds Oper.semAt_some
theorem Y0.cL5 {s:G5} (v:Y0 s) {k:Nat} {x:List Int} (h:At s.wo k x):x.length=s.mo.length:=by
 have:=List.all_eq_true.1 v.wo x h.mem
 unfold ai5 at this
 rw[fh9,decide_eq_true_eq]at this
 exact this.1
theorem Y0.wbd {s:G5} (v:Y0 s) {k t:Nat} {x:List Int} {n:Int} (h:At s.wo k x) (hn:At x t n):0≤n∧n≤12:=by
 have:=List.all_eq_true.1 v.wo x h.mem
 unfold ai5 at this
 rw[fh9]at this
 exact within_iff.1 (List.all_eq_true.1 this.2 n hn.mem)
theorem Y0.mbd {s:G5} (v:Y0 s) {k:Nat} {m:Mld} (h:At s.mo k m):(0≤m.pg∧m.pg≤(s.wa.length:Int)-1)∧(0≤m.us∧m.us≤12)∧(0≤m.br∧m.br≤1):=by
 have:=List.all_eq_true.1 v.mo m h.mem
 unfold am5 at this
 rw[fh9,fh9]at this
 exact⟨within_iff.1 this.1.1,within_iff.1 this.1.2,within_iff.1 this.2⟩
theorem ck8 {s:G5} {k:Nat} {x:List Int} (h:At s.wo k x):wld s k=x:=by unfold wld;exact h.getD _
theorem be9 {s:G5} {k:Nat} {m:Mld} (h:At s.mo k m):mld s k=m:=by unfold mld;exact h.getD _
end
section
open Go.RowKit
attribute [local go_sem] j4.drew j4.alloc j4.drewN WB.holds Oper.semAt_some
theorem ck9 (a:ByteArray):(a.toList==a.toList)=true:=beq_self_eq_true _
theorem cL6 {a b:ByteArray} (h:¬a=b):(a.toList==b.toList)=false:=by
 rw[ByteArray.toList_eq,ByteArray.toList_eq,beq_eq_false_iff_ne]
 intro e
 apply h
 cases a;cases b
 simp only[ByteArray.mk.injEq]
 exact Array.ext' e
theorem bK5 (va vb:Value) (xs ys:List ByteArray) (H:j5) (w:World) (hw:j4 H w) (ha:Sl H va xs) (hb:Sl H vb ys):
 Calls Tryz.prog 25 #[va,vb] w (I1 w (.bool (decide (xs=ys)))):=by
 obtain⟨aa,ca,rfl,ha1,ha2⟩:=ha.form
 obtain⟨ab,cb,rfl,hb1,hb2⟩:=hb.form
 cases hl:((xs.length:Int) != ys.length)
 ·have HL:Hid (xs.length=ys.length):=fe6 (by have:=bne_eq_false_iff_eq.1 hl;omega)
  go_enter Tryz.func25,Tryz.ntmps25
  go_wp2
  go_loopw [4,5] (fun _ i wr=>∃k:Nat,k≤xs.length∧i= .int .i64 k∧xs.take k=ys.take k∧Ext w H wr H) (fun _ i _=>xs.length-(intOf i).toNat)
  case atStart=>exact⟨0,fh3 _,rfl,rfl,Ext.refl hw⟩
  case round=>
   obtain⟨k,hk,rfl,hok,E5⟩:=hrel
   have hwr:=E5.holds
   replace hok:=fe6 hok
   by_cases hlt:k<xs.length
   ·obtain⟨x,hxk⟩:=At.mk hlt
    have hlt2:k<ys.length:=by rw[←HL.out];exact hlt
    obtain⟨y,hyk⟩:=At.mk hlt2
    obtain⟨b,o,c,he,hi,hr⟩:=ha.str hxk
    cases he
    obtain⟨b',o',c',he,hi',hr'⟩:=hb.str hyk
    cases he
    clear hi hi'
    by_cases hxy:x=y
    ·subst hxy
     have ht:=ck9 x
     go_wp2
     go_quiet (fail)
     go_wp2
     go_roundw
     case rel=>exact⟨k+1,by omega,by go_num,by rw[hxk.take,hyk.take,hok.out],E5.drewN _⟩
     case measure=>simp[intOf];omega
    ·have ht:=cL6 hxy
     go_wp2
     go_quiet (fail)
     go_wp2
     go_ret
     exact⟨M0 (by symm;rw[decide_eq_false_iff_not];intro e;apply hxy;have dM7:=hyk;rw[←e]at dM7;exact Option.some.inj (hxk.symm.trans dM7)),(E5.drewN _).below⟩
   ·go_wp2
    go_ret
    have h1:xs.take k=ys.take k:=hok.out
    rw[fg7 (by omega),fg7 (by rw[←HL.out];omega)]at h1
    exact⟨M0 (by simp[h1]),E5.below⟩
 ·go_enter Tryz.func25,Tryz.ntmps25
  go_wp2
  go_ret
  exact⟨M0 (by symm;rw[decide_eq_false_iff_not];rintro rfl;simp at hl),Below.refl _ _⟩
end
section
open Go.RowKit
attribute [local go_sem] j4.drew j4.alloc j4.drewN WB.holds
theorem aj7 (vm vb vt:Value) (h:A9) (H:j5) (w:World) (hw:j4 H w) (hh:Hou H vm vb vt h):
 Calls Tryz.prog 56 #[U2 vm vb vt h] w (I1 w (.int .i64 (aq2 (valid h)))):=by
 obtain⟨am,cm,rfl,hm1,hm2⟩:=hh.m.form
 obtain⟨ab,cb,rfl,hb1,hb2⟩:=hh.b.form
 obtain⟨at',ct,rfl,ht1,ht2⟩:=hh.t.form
 go_enter Tryz.func56,Tryz.ntmps56
 go_upto_region 2 with(refine af8 rfl _ rfl (Ext.refl hw) ?_;intro B w1 H1 hle hx hB hBw;obtain⟨hc0,hc1,hc2,hc3⟩:=R6 hB;clear hB hw;have hw1:=hx.holds)
 have hmf:∀(fn:Fn) (first cap:Array Value) (w:World),(Instr.makeFunc fn first cap).run Tryz.prog w= .ok (.func fn first cap) w:=fun _ _ _ _=>rfl
 have hn:H1 w1.heap.size=none:=hw1.D6 (fh0 _)
 have hxz:=(hx.alloc (.cells #[.func (.func 87) #[] #[]] 160)).freeze hx.below.size (heap_alloc_new w1 _)
 have hle2:=j5.L9 hn (.cells #[.func (.func 87) #[] #[]] 160 (0,0))
 have hcF:∀w,j4 (H1.put w1.heap.size (.cells #[.func (.func 87) #[] #[]] 160 (0,0))) w→w.cell? ⟨w1.heap.size,0,none⟩=some (.func (.func 87) #[] #[]):=fun w hw=>D7 (j5.G7 _ _ _) hw 0
 generalize H1.put w1.heap.size (.cells #[.func (.func 87) #[] #[]] 160 (0,0))=H2 at*
 generalize w1.alloc (.cells #[.func (.func 87) #[] #[]] 160)=wz at*
 generalize w1.heap.size=c at*
 replace hc0:=lift hle2 hc0
 replace hc1:=lift hle2 hc1
 replace hc2:=lift hle2 hc2
 replace hc3:=lift hle2 hc3
 have hwz:=hxz.holds
 have hhz:=(hh.mono hle).mono hle2
 clear hx hw1 hle hle2 hn
 cases g1:within (h.ms.length:Int) 1 3
 ·go_wp2_with(first|(go_at_call 88;refine(af0 _ _ _ _).mono ?_;rintro e w' ⟨rfl,rfl⟩))
  go_ret
  exact⟨an6 (aw1 (fun v=>by rw[within_iff.2 ⟨by have:=v.m1;omega,by have:=v.m3;omega⟩]at g1;cases g1)).symm,hxz.below⟩
 ·cases g2:decide (5<(h.bs.length:Int))
  rotate_left
  ·go_wp2_with(first|(go_at_call 88;refine(af0 _ _ _ _).mono ?_;rintro e w' ⟨rfl,rfl⟩))
   go_ret
   exact⟨an6 (aw1 (fun v=>by have:=v.b5;have:=of_decide_eq_true g2;omega)).symm,hxz.below⟩
  ·cases g3:decide (4<(h.ts.length:Int))
   rotate_left
   ·go_wp2_with(first|(go_at_call 88;refine(af0 _ _ _ _).mono ?_;rintro e w' ⟨rfl,rfl⟩))
    go_ret
    exact⟨an6 (aw1 (fun v=>by have:=v.t4;have:=of_decide_eq_true g3;omega)).symm,hxz.below⟩
   ·cases g4:within h.ch 0 9
    ·go_wp2_with(first|(go_at_call 88;refine(af0 _ _ _ _).mono ?_;rintro e w' ⟨rfl,rfl⟩))
     go_ret
     exact⟨an6 (aw1 (fun v=>by have:=v.ch;rw[this]at g4;cases g4)).symm,hxz.below⟩
    ·cases g5:h.ts.any fun n=> !within n 0 99
     rotate_left
     ·go_wp2_with(first|(go_at_call 88;refine(af0 _ _ _ _).mono ?_;rintro e w' ⟨rfl,rfl⟩)|(go_at_call 89;refine(aA7 _ _ _ _ _ hwz hhz.t (hcF _ hwz)).mono ?_;rintro e w' ⟨rfl,rfl⟩))
      go_ret
      exact⟨an6 (aw1 (fun v=>by obtain⟨x,hx,hx2⟩:=List.any_eq_true.1 g5;have:=List.all_eq_true.1 v.ts x hx;rw[this]at hx2;cases hx2)).symm,hxz.below⟩
     ·cases g6:h.ms.any fun m=> !ao1 m
      rotate_left
      ·go_wp2_with(first|(go_at_call 88;refine(af0 _ _ _ _).mono ?_;rintro e w' ⟨rfl,rfl⟩)|(go_at_call 89;refine(aA7 _ _ _ _ _ hwz hhz.t (hcF _ hwz)).mono ?_;rintro e w' ⟨rfl,rfl⟩)|(go_at_call 91;refine(aH0 _ _ _ _ _ hwz hhz.m hcF).mono ?_;rintro e w' ⟨rfl,hbM⟩;have hwM:=hwz.below hbM;have hxM:=hxz.step (hbM.mono hxz.below.size) hwM))
       go_ret
       exact⟨an6 (aw1 (fun v=>by obtain⟨x,hx,hx2⟩:=List.any_eq_true.1 g6;have:=List.all_eq_true.1 v.ms x hx;rw[this]at hx2;cases hx2)).symm,hxM.below⟩
      ·cases g7:h.bs.any fun b=> !al7 h.ts.length b
       rotate_left
       ·go_wp2_with(first|(go_at_call 88;refine(af0 _ _ _ _).mono ?_;rintro e w' ⟨rfl,rfl⟩)|(go_at_call 89;refine(aA7 _ _ _ _ _ hwz hhz.t (hcF _ hwz)).mono ?_;rintro e w' ⟨rfl,rfl⟩)|(go_at_call 91;refine(aH0 _ _ _ _ _ hwz hhz.m hcF).mono ?_;rintro e w' ⟨rfl,hbM⟩;have hwM:=hwz.below hbM;have hxM:=hxz.step (hbM.mono hxz.below.size) hwM)|(go_at_call 93;refine(aV2 _ _ _ _ _ _ _ _ _ hwM hhz.b hhz hc0 hc1 hc2 hc3).mono ?_;rintro e w' ⟨rfl,hbB⟩;have hxB:=hxM.step (hbB.mono hxM.below.size) (hwM.below hbB)))
        go_ret
        exact⟨an6 (aw1 (fun v=>by obtain⟨x,hx,hx2⟩:=List.any_eq_true.1 g7;have:=List.all_eq_true.1 v.bs x hx;rw[this]at hx2;cases hx2)).symm,hxB.below⟩
       ·have hyes:Valid h:=by
         have h1:=within_iff.1 g1
         have h2:=of_decide_eq_false g2
         have h3:=of_decide_eq_false g3
         refine⟨by omega,by omega,by omega,by omega,g4, ?_, ?_, ?_⟩
         ·rw[List.all_eq_true];intro x hx;have:=List.any_eq_false.1 g6 x hx;simpa using this
         ·rw[List.all_eq_true];intro x hx;have:=List.any_eq_false.1 g5 x hx;simpa using this
         ·rw[List.all_eq_true];intro x hx;have:=List.any_eq_false.1 g7 x hx;simpa using this
        go_wp2_with(first|(go_at_call 88;refine(af0 _ _ _ _).mono ?_;rintro e w' ⟨rfl,rfl⟩)|(go_at_call 89;refine(aA7 _ _ _ _ _ hwz hhz.t (hcF _ hwz)).mono ?_;rintro e w' ⟨rfl,rfl⟩)|(go_at_call 91;refine(aH0 _ _ _ _ _ hwz hhz.m hcF).mono ?_;rintro e w' ⟨rfl,hbM⟩;have hwM:=hwz.below hbM;have hxM:=hxz.step (hbM.mono hxz.below.size) hwM)|(go_at_call 93;refine(aV2 _ _ _ _ _ _ _ _ _ hwM hhz.b hhz hc0 hc1 hc2 hc3).mono ?_;rintro e w' ⟨rfl,hbB⟩;have hxB:=hxM.step (hbB.mono hxM.below.size) (hwM.below hbB)))
        go_ret
        exact⟨an6 (ci5 hyes).symm,hxB.below⟩
end
section
open Go.RowKit
attribute [local go_sem] j4.drew j4.alloc j4.drewN WB.holds
theorem dm8 (vm vb vt:Value) (h:A9) (is:Bool) (H:j5) (w:World) (hw:j4 H w) (hh:Hou H vm vb vt h):
 Calls Tryz.prog 63 #[U2 vm vb vt h,.bool is] w (I1 w (.int .i64 (bG8 (valid h) is))):=by
 cases hv:valid h
 ·have he:aq2 (valid h)=40:=by rw[hv];rfl
  go_enter Tryz.func63,Tryz.ntmps63
  go_wp2_with(first|(refine af8 rfl _ rfl (Ext.refl hw) ?_;intro B w1 H1 hle hx hB hBw;obtain⟨hc0,hc1,hc2,hc3⟩:=R6 hB;clear hB hw;have hw1:=hx.holds)|(go_at_call 56;refine(aj7 _ _ _ _ _ _ hw1 (hh.mono hle)).mono ?_;rintro e w' ⟨rfl,hb2⟩))
  go_ret
  exact⟨rfl,hx.below.trans (hb2.mono hx.below.size)⟩
 ·have he:aq2 (valid h)=0:=by rw[hv];rfl
  cases is
  all_goals
   go_enter Tryz.func63,Tryz.ntmps63
   go_wp2_with(first|(refine af8 rfl _ rfl (Ext.refl hw) ?_;intro B w1 H1 hle hx hB hBw;obtain⟨hc0,hc1,hc2,hc3⟩:=R6 hB;clear hB hw;have hw1:=hx.holds)|(go_at_call 56;refine(aj7 _ _ _ _ _ _ hw1 (hh.mono hle)).mono ?_;rintro e w' ⟨rfl,hb2⟩))
   go_ret
   exact⟨rfl,hx.below.trans (hb2.mono hx.below.size)⟩
end
section
open Go.RowKit
section
variable (P:Program) (md:Region.Mode) (ops:Array Oper) (Q:Exit→Act→World→Prop) (S:World→Prop) (n g:Nat) (tl:List Oper)
def hdH:Nat→Array Bool→Act→World→Prop
 |0,listed,a,w=>Region.seqB md ops g n listed=true∧wpList P ops Q tl a w
 |f+1,listed,a,w=>Region.ready md ops listed≠[]∧∀i∈Region.ready md ops listed,i<n∧wpOp P ops Q i (fun a' w'=>S w'∧hdH f (listed.setIfInBounds i true) a' w') a w
structure er3 (listed:Array Bool):Prop where
 i:HeadInv md ops n listed
 s:Region.sinkB md ops n=true
 c:Region.chainB md ops n=true
 l:n<ops.size
def hdI (f:Nat) (listed:Array Bool) (a:Act) (w:World):Prop:=er3 md ops n listed→hdH P md ops Q S n g tl f listed a w
def r9 (f:Nat) (listed:Array Bool) (a:Act) (w:World) (rs:List Nat):Prop:=∀i∈rs,wpOp P ops Q i (fun a' w'=>S w'∧hdI P md ops Q S n g tl f (listed.setIfInBounds i true) a' w') a w
end
section
variable {P:Program} {md:Region.Mode} {ops:Array Oper} {Q:Exit→Act→World→Prop} {S:World→Prop} {n g:Nat} {tl:List Oper}
theorem cY5 {i:Nat} {oi:Oper} {v:Value} (hi:ops[i]? =some oi) (hsel:∀(j:Nat) (o:Oper) cs b,ops[j]? =some o→o.op≠ .select cs b)
 (hQ:∀c a w,Q (.panic c) (a.put oi.dst v) w→Q (.panic c) a w) (hs:Region.sinkB md ops n=true) (hc:Region.chainB md ops n=true) (hn:n<ops.size) (hin:i<n):
 ∀(f:Nat) (listed:Array Bool) (a:Act) (w:World),HeadInv md ops n listed→
  (∀j oj,ops[j]? =some oj→j≠i→listed.getD j true=false→(∀e∈oj.after,Region.binds md e=true→e.on≠i)→oi.apart ops oj=true)→
  i∈Region.ready md ops listed→YieldsIf P ops S oi v a→S w→
  hdH P md ops Q S n g tl f (listed.setIfInBounds i true) (a.put oi.dst v) w→hdH P md ops Q S n g tl (f+1) listed a w:=by
 intro f
 induction f with
 |zero=>
  intro listed a w inv _ hr hy hS H
  have hun:=(mem_ready.1 hr).1
  refine⟨fun h=>(by rw[h]at hr;cases hr),fun j hj=> ?_⟩
  have hjn:j<n:=Nat.lt_of_not_le fun h=>tail_waits hs hc hn inv _ i rfl hin hun j h hj
  refine⟨hjn, ?_⟩
  by_cases hji:j=i
  ·subst hji;exact hy.wpOp hi hS ⟨hS,H⟩
  ·have:=seqB_ready H.1 j (ready_mono hj hji);omega
 |succ f ih=>
  intro listed a w inv hfree hr hy hS H
  have hun:=(mem_ready.1 hr).1
  refine⟨fun h=>(by rw[h]at hr;cases hr),fun j hj=> ?_⟩
  have hjn:j<n:=Nat.lt_of_not_le fun h=>tail_waits hs hc hn inv _ i rfl hin hun j h hj
  refine⟨hjn, ?_⟩
  by_cases hji:j=i
  ·subst hji;exact hy.wpOp hi hS ⟨hS,H⟩
  ·have h1:=(H.2 j (ready_mono hj hji)).2
   obtain⟨hjun,oj,hoj,hall⟩:=mem_ready.1 hj
   have hnot:∀e∈oj.after,Region.binds md e=true→e.on≠i:=fun e he hb heq=>by
    have:=hall e he hb
    rw[heq,getD_both hun]at this;cases this
   have h2:=wpOp_putIf hoj (hfree j oj hoj hji hjun hnot) (fun cs b=>hsel i oi cs b hi) (fun cs b=>hsel j oj cs b hoj) hQ hy h1
   refine wpOp_mono (fun a' w' h3=>⟨h3.2.1,ih (listed.setIfInBounds j true) a' w' (inv.set hj hjn) (fun q oq hq hqi cl0 hno=>hfree q oq hq hqi ?_ hno) (ready_mono hr (Ne.symm hji)) h3.1 h3.2.1 ?_⟩) h2
   ·by_cases hjq:j=q
    ·subst hjq;exact hjun
    ·rw[getD_set_ne true hjq]at cl0;exact cl0
   ·rw[Array.setIfInBounds_comm _ _ hji];exact h3.2.2
theorem dn0 {i:Nat} {oi:Oper} {v:Value} {f:Nat} {listed:Array Bool} {a:Act} {w:World} (hi:ops[i]? =some oi) (hsel:Region.noSelect ops=true) (hf:Region.free md ops listed i=true) (hr:((Region.ready md ops listed).contains i&&decide (i<n))=true)
 (hQ:∀c a w,Q (.panic c) (a.put oi.dst v) w→Q (.panic c) a w) (hy:YieldsIf P ops S oi v a) (hS:S w)
 (h:hdI P md ops Q S n g tl f (listed.setIfInBounds i true) (a.put oi.dst v) w):hdI P md ops Q S n g tl (f+1) listed a w:=fun I=>by
 simp only[fh9,decide_eq_true_eq]at hr
 have hr':i∈Region.ready md ops listed:=by simpa using hr.1
 exact cY5 hi (Region.noSelect_spec hsel) hQ I.s I.c I.l hr.2 f listed a w I.i (Region.free_spec hi hf) hr' hy hS (h ⟨I.i.set hr' hr.2,I.s,I.c,I.l⟩)
theorem D9 (i:Nat) {oi:Oper} {v:Value} {f:Nat} {listed:Array Bool} {a:Act} {w:World} (hi:ops[i]? =some oi) (hb:(Region.noSelect ops&&Region.free md ops listed i&&((Region.ready md ops listed).contains i&&decide (i<n)))=true)
 (hQ:∀c a w,Q (.panic c) (a.put oi.dst v) w→Q (.panic c) a w) (hg:Region.wanted oi (yielded ops a.tmps)=true) (hy:∀w,S w→(execOp a.eval oi).run P w= .ok (.value v) w) (hS:S w)
 (h:hdI P md ops Q S n g tl f (listed.setIfInBounds i true) (a.put oi.dst v) w):hdI P md ops Q S n g tl (f+1) listed a w:=by
 rw[fh9,fh9]at hb
 exact dn0 hi hb.1.1 hb.1.2 hb.2 hQ (.inl ⟨hg,hy⟩) hS h
theorem de9 {rs:List Nat} {f:Nat} {listed:Array Bool} {a:Act} {w:World} (hr:Region.ready md ops listed=rs) (hne:(!rs.isEmpty&&rs.all (fun i=>decide (i<n)))=true)
 (h:r9 P md ops Q S n g tl f listed a w rs):hdI P md ops Q S n g tl (f+1) listed a w:=fun I=>by
 simp only[fh9]at hne
 refine⟨fun h0=>by rw[hr]at h0;rw[h0]at hne;simp at hne,fun i hi=> ?_⟩
 have hi2:=hi
 rw[hr]at hi2
 have hin:i<n:=of_decide_eq_true (List.all_eq_true.1 hne.2 i hi2)
 exact⟨hin,wpOp_mono (fun a' w' h'=>⟨h'.1,h'.2 ⟨I.i.set hi hin,I.s,I.c,I.l⟩⟩) (h i hi2)⟩
theorem r9.nil {f:Nat} {listed:Array Bool} {a:Act} {w:World}:r9 P md ops Q S n g tl f listed a w []:=fun _ h=>by cases h
theorem r9.cons {f:Nat} {listed:Array Bool} {a:Act} {w:World} {i:Nat} {o:Oper} {rs:List Nat} (ho:ops[i]? =some o)
 (h:∀K':Act→World→Prop,Shut (∀a w,S w→(S w→hdI P md ops Q S n g tl f (listed.setIfInBounds i true) a w)→K' a w)→if Region.wanted o (yielded ops a.tmps)=true then Oper.wp P o a w K' Q else K' (a.put o.dst undef) w)
 (hs:r9 P md ops Q S n g tl f listed a w rs):r9 P md ops Q S n g tl f listed a w (i::rs):=fun j hj=>by
 rcases List.mem_cons.1 hj with rfl|hj
 ·exact wpOp_step ho (fun K' hK=>h K' (fun a w hS hW=>hK a w ⟨hS,hW hS⟩))
 ·exact hs j hj
theorem G9 {listed:Array Bool} {a:Act} {w:World} (hr:Region.seqB md ops g n listed=true) (h:wpList P ops Q tl a w):hdI P md ops Q S n g tl 0 listed a w:=fun _=>⟨hr,h⟩
theorem aV4 (hl:∀listed a w,Region.seqB md ops g n listed=true→wpList P ops Q tl a w→wpAny P md ops Q g listed a w):
 ∀(f:Nat) (listed:Array Bool) (a:Act) (w:World),hdH P md ops Q S n g tl f listed a w→wpAny P md ops Q (f+g) listed a w
 |0,listed,a,w,h=>by rw[Nat.zero_add];exact hl _ _ _ h.1 h.2
 |f+1,listed,a,w,h=>by
  rw[show f+1+g=(f+g)+1 by omega]
  exact⟨fun h0=>absurd h0 h.1,fun i hi=>wpOp_mono (fun a' w' h'=>aV4 hl f _ a' w' h'.2) (h.2 i hi).2⟩
theorem U1 {id:Nat} {a:Act} {w:World} {l:List Oper} (n:Nat) (hm:P.follows .mixedOrders=true) (hB:(decide (n<l.length)&&Region.sinkB .any l.toArray n&&Region.chainB .any l.toArray n)=true) (hS:S w.drew)
 (h:S w.drew→hdI P .any l.toArray Q S n (l.length-n) (l.drop n) n (Array.replicate l.length false) a w.drew):(Code.region id l.toArray true).wp P Q a w:=by
 simp only[fh9,decide_eq_true_eq]at hB
 obtain⟨⟨hn,hs⟩,hc⟩:=hB
 have inv0:HeadInv .any l.toArray n (Array.replicate l.length false):=
  ⟨by simp,fun j oj _ hl=>(by rw[getD_replicate_false]at hl;cases hl),fun t _ ht=>getD_in (by simpa using ht) (getD_replicate_false _ _)⟩
 refine wp_region_any hm ?_
 have:=aV4 (S:=S) (md:= .any) (ops:=l.toArray) (Q:=Q) (P:=P) (n:=n) (g:=l.length-n) (tl:=l.drop n) (fun listed a' w' hq hw=>by
  have h2:=wpAny_of_seq (md:= .any) (Q':=Q) (l.drop n) n listed a' w' (fun j=>by simp[List.getElem?_drop]) (by rw[List.length_drop];exact hq) hw
  rwa [List.length_drop]at h2) n _ a w.drew (h hS ⟨inv0,hs,hc,by simpa using hn⟩)
 rw[show n+(l.length-n)=l.toArray.size by simp;omega]at this
 simpa using this
end
theorem X3 {H:j5} {w0 w:World} (h:j4 H w) (b:Below w0.heap.size w0 w):j4 H w.drew∧Below w0.heap.size w0 w.drew:=⟨h.drew,b.drew⟩
theorem X4 {H:j5} {w0 w:World} (h:j4 H w) (b:Below w0.heap.size w0 w) (o:Obj):j4 H (w.alloc o)∧Below w0.heap.size w0 (w.alloc o):=⟨h.alloc o,b.alloc b.size o⟩
theorem X5 {H:j5} {w0 w:World} (h:j4 H w) (b:Below w0.heap.size w0 w) (o:Obj):j4 H (w.alloc o).drew∧Below w0.heap.size w0 (w.alloc o).drew:=⟨(h.alloc o).drew,(b.alloc b.size o).drew⟩
end
section
open Go.RowKit
theorem hdA {P:Program} {md:Region.Mode} {ops:Array Oper} {Q:Exit→Act→World→Prop} {S:World→Prop} {n g:Nat} {tl:List Oper} (i:Nat) {oi:Oper} {v:Value} {f:Nat} {listed:Array Bool} {a:Act} {w:World} (h:hdI P md ops Q S n g tl f (listed.setIfInBounds i true) (a.put oi.dst v) w)
 (hi:ops[i]? =some oi:=by simp only[List.getElem?_toArray,List.getElem?_cons_succ,List.getElem?_cons_zero]<;>rfl) (hb:(Region.noSelect ops&&Region.free md ops listed i&&((Region.ready md ops listed).contains i&&decide (i<n)))=true:=by kernel_rfl)
 (hQ:∀c a w,Q (.panic c) (a.put oi.dst v) w→Q (.panic c) a w:=by exact fun _ _ _ h=>h) (hg:Region.wanted oi (yielded ops a.tmps)=true:=by rfl) (hy:∀w,S w→(execOp a.eval oi).run P w= .ok (.value v) w:=by intro w hSw;(try dsimp only at hSw);go_simp;(try(with_reducible rfl))) (hS:S w:=by assumption):hdI P md ops Q S n g tl (f+1) listed a w:=D9 i hi hb hQ hg hy hS h
theorem hdS {P:Program} {md:Region.Mode} {ops:Array Oper} {Q:Exit→Act→World→Prop} {S:World→Prop} {n g:Nat} {tl:List Oper} (i:Nat) {oi:Oper} {f:Nat} {listed:Array Bool} {a:Act} {w:World} (h:hdI P md ops Q S n g tl f (listed.setIfInBounds i true) (a.put oi.dst undef) w)
 (hi:ops[i]? =some oi:=by simp only[List.getElem?_toArray,List.getElem?_cons_succ,List.getElem?_cons_zero]<;>rfl) (hb:(Region.noSelect ops&&Region.free md ops listed i&&((Region.ready md ops listed).contains i&&decide (i<n)))=true:=by kernel_rfl)
 (hQ:∀c a w,Q (.panic c) (a.put oi.dst undef) w→Q (.panic c) a w:=by exact fun _ _ _ h=>h) (hg:Region.wanted oi (yielded ops a.tmps)=false:=by kernel_rfl) (hS:S w:=by assumption):hdI P md ops Q S n g tl (f+1) listed a w:=by
 rw[fh9,fh9]at hb
 exact dn0 hi hb.1.1 hb.1.2 hb.2 hQ (.inr ⟨hg,rfl⟩) hS h
theorem hdR {P:Program} {md:Region.Mode} {ops:Array Oper} {Q:Exit→Act→World→Prop} {S:World→Prop} {n g:Nat} {tl:List Oper} (i:Nat) {o:Oper} (rs:List Nat) {f:Nat} {listed:Array Bool} {a:Act} {w:World}
 (h:∀K':Act→World→Prop,Shut (∀a w,S w→(S w→hdI P md ops Q S n g tl f (listed.setIfInBounds i true) a w)→K' a w)→if Region.wanted o (yielded ops a.tmps)=true then Oper.wp P o a w K' Q else K' (a.put o.dst undef) w)
 (hs:r9 P md ops Q S n g tl f listed a w rs) (hr:Region.ready md ops listed=i::rs:=by kernel_rfl) (hne:(!(i::rs).isEmpty&&(i::rs).all (fun i=>decide (i<n)))=true:=by kernel_rfl) (ho:ops[i]? =some o:=by simp only[List.getElem?_toArray,List.getElem?_cons_succ,List.getElem?_cons_zero]<;>rfl):hdI P md ops Q S n g tl (f+1) listed a w:=de9 hr hne (r9.cons ho h hs)
theorem ag1 {S:World→Prop} {R:Act→World→Prop} {K:Act→World→Prop} (hK:Shut (∀a w,S w→(S w→R a w)→K a w)) {a:Act} {w:World} (h:S w→R a w) (hS:S w:=by(try dsimp only);(first|assumption|exact⟨by assumption,by assumption⟩|(go_split_ands;first|exact X3 ‹_› ‹_›|exact X4 ‹_› ‹_› _|exact X5 ‹_› ‹_› _))):K a w:=hK.out a w hS h
theorem aF9 {S:World→Prop} {R:Act→World→Prop} {K:Act→World→Prop} (hK:Shut (∀a w,S w→(S w→R a w)→K a w)) {a:Act} {w:World} (h:S w→R a w) (hS:S w:=by(try dsimp only);(first|assumption|exact j4.drew ‹_›|exact j4.alloc ‹_› _|exact j4.drew (j4.alloc ‹_› _)|exact j4.alloc (j4.drew ‹_›) _)):K a w:=hK.out a w hS h
end
section
open Go.RowKit
section
variable {α:Type} [Enc α] {P:Program} {H:j5} {w:World} {t e:TypeId} {xs:List α}
theorem Sl.cap {a:Option Addr} {n c:Nat} (h:Sl H (.slice a n c) xs) {k:Nat} (h1:xs.length≤k) (h2:k≤9223372036854775807):Sl H (.slice a n k) xs:=by
 obtain⟨a',c',e,_,_,h3,h4⟩:=h
 cases e
 exact⟨a,k,rfl,h1,h2,h3,h4⟩
theorem dm9 (T:af2 P t e α) (ty:TypeId) {a:Option Addr} (hs:Sl H (.slice a xs.length xs.length) xs) {x:α} {cs:List Value} {g c:Nat} (hx:Enc.rep H x cs) (hcs:∀(j:Nat) (u:Value),cs[j]? =some u→w.cell? ⟨g,j,none⟩=some u) (hw:j4 H w)
 (hlen:(xs.length+1)*Enc.M4 α≤140737488355328) (h63:xs.length+1≤9223372036854775807):
 ∃v' w',(Builtin.append_ #[t,t] ty #[.slice a xs.length xs.length,.slice (some ⟨g,0,none⟩) 1 c]).run P w= .ok v' w'∧Own H w.heap.size w' e v' (xs++[x])∧w.grownBy w' none∧j4 H w':=by
 obtain⟨i,z,hi,hz,hsz,hby,hzs⟩:=T.inf
 have key:∀(b:Addr) (olds:List Value),a=some b→olds.length=xs.length*Enc.sz α→P6 H xs olds→(∀j u,olds[j]? =some u→w.cell? (b.add j)=some u)→
  ∃v' w',(Builtin.append_ #[t,t] ty #[.slice a xs.length xs.length,.slice (some ⟨g,0,none⟩) 1 c]).run P w= .ok v' w'∧Own H w.heap.size w' e v' (xs++[x])∧w.grownBy w' none∧j4 H w':=fun b olds hb hlo hr holds=>by
  subst hb
  obtain⟨v',w',hrun,ho,hg⟩:=run_append_arg_grows (P:=P) w t ty e i z (Enc.sz α) (Enc.M4 α) T.und hi hz hsz hby hzs T.pos b xs.length xs.length olds hlo holds ⟨g,0,none⟩ 1 c cs (by rw[Nat.one_mul];exact Enc.len hx)
   (fun j u hu=>by rw[Addr.add_lit,Nat.zero_add];exact hcs j u hu) (by omega) (by simp only[maxLen];omega) hlen
  refine⟨v',w',hrun,⟨olds++cs,by rw[ff4];exact ho,hr.append (P6.single hx),fun k hk=> ?_,by rw[ff4];exact hlen⟩,hg,hw.grown hg (by simp)⟩
  exact hw.D6 (ho.lt k hk).1
 cases a with
 |none=>
  have h0:xs=[]:=by
   obtain⟨_,_,he,_,_,_,h5⟩:=hs
   rcases h5 with h5|⟨b,o,cur,e',fr,ha,_⟩
   ·exact h5
   ·cases he;cases ha
  subst h0
  obtain⟨v',w',hrun,ho,hg,hw',_⟩:=bH0 (P:=P) T ty (Own.nil H w.heap.size w e) hx hcs hw hlen h63 (fh0 _) c
  exact⟨v',w',hrun,ho,hg,hw'⟩
 |some b=>
  by_cases hne:xs=[]
  ·subst hne
   exact key b [] rfl (by simp) rfl (fun j u h=>by simp at h)
  ·obtain⟨a',c',cells,he,hl,hr,hcell⟩:=hs.cells hne hw
   cases he
   exact key _ cells rfl hl hr hcell
theorem ab0 {ops:Array Oper} {o:Oper} {a:Act} {Q:Exit→Act→World→Prop} {K:Act→World→Prop} {E:Prop} (T:af2 P t e α) (hgd:o.guard=none) (s y:Operand) (ho:o.op= .call {callee:= .builtin .append,args:= #[s,y],argTypes:= #[t,t]})
 {b:Option Addr} (hs:a.eval s= .slice b xs.length xs.length) (hsl:Sl H (.slice b xs.length xs.length) xs) {x:α} {cs:List Value} {g c:Nat} (hy:a.eval y= .slice (some ⟨g,0,none⟩) 1 c) (hx:Enc.rep H x cs)
 (hcs:∀(j:Nat) (u:Value),cs[j]? =some u→w.cell? ⟨g,j,none⟩=some u) (hw:j4 H w) (hlen:(xs.length+1)*Enc.M4 α≤140737488355328) (h63:xs.length+1≤9223372036854775807)
 (h:∀v' w',Own H w.heap.size w' e v' (xs++[x])→w.grownBy w' none→j4 H w'→K (a.put o.dst v') w'):if Region.wanted o (yielded ops a.tmps)=true then Oper.wp P o a w K Q else E:=by
 obtain⟨v',w',hr,h2,h3,h4⟩:=dm9 (P:=P) (c:=c) T o.type hsl hx hcs hw hlen h63
 rw[if_pos (by simp[Region.wanted,hgd])]
 unfold Oper.wp execOp
 simp only[ho,resolve,invoke,builtin,Sem.run_bind,Sem.run_pure,Result.andThen_ok,List.map_toArray,List.map_cons,List.map_nil,hs,hy,hr]
 exact h v' w' h2 h3 h4
end
structure J4 (w0:World) (H0:j5) (O:Nat) (T:TypeId) (w:World) (H:j5) (cur:Array Value):Prop where
 x:Ext w0 H0 w H
 at_:w.heap[O]? =some (.cells cur T (0,0))
 ob:w0.heap.size≤O
 oH:H O=none
section
variable {w0 w w':World} {H0 H H':j5} {O k:Nat} {T:TypeId} {cur:Array Value} {v:Value}
theorem J4.lt (c:J4 w0 H0 O T w H cur):O<w.heap.size:=(Array.getElem?_eq_some_iff.1 c.at_).1
theorem J4.cell (c:J4 w0 H0 O T w H cur) (k:Nat):w.cell? ⟨O,k,none⟩=cur[k]? :=by rw[Lib.cell_of_heap c.at_]
theorem J4.fz (c:J4 w0 H0 O T w H cur) (k:Nat):w.frozen? ⟨O,k,none⟩=false:=Lib.frozen_of_heap c.at_ k
theorem J4.drew (c:J4 w0 H0 O T w H cur):J4 w0 H0 O T w.drew H cur:=⟨c.x.drew,c.at_,c.ob,c.oH⟩
theorem J4.alloc (c:J4 w0 H0 O T w H cur) (o:Obj):J4 w0 H0 O T (w.alloc o) H cur:=⟨c.x.alloc o,(heap_alloc_old w o c.lt).trans c.at_,c.ob,c.oH⟩
theorem J4.set (c:J4 w0 H0 O T w H cur) (k:Nat) (v:Value):J4 w0 H0 O T (w.setCell ⟨O,k,none⟩ v) H (cur.setIfInBounds k v):=
 ⟨c.x.setCell (a:=⟨O,k,none⟩) c.ob c.oH v,M7 c.at_ v,c.ob,c.oH⟩
theorem J4.below (c:J4 w0 H0 O T w H cur) (hb:Below w.heap.size w w'):J4 w0 H0 O T w' H cur:=
 ⟨c.x.step (hb.mono c.x.below.size) (c.x.holds.below hb),(hb.block O c.lt).trans c.at_,c.ob,c.oH⟩
theorem J4.ext (c:J4 w0 H0 O T w H cur) (hx:Ext w H w' H'):J4 w0 H0 O T w' H' cur:=
 ⟨c.x.trans hx,(hx.below.block O c.lt).trans c.at_,c.ob,(hx.same O c.lt).trans c.oH⟩
theorem J4.new (hx:Ext w0 H0 w H) (cur:Array Value) (T:TypeId):J4 w0 H0 w.heap.size T (w.alloc (.cells cur T)) H cur:=
 ⟨hx.alloc _,heap_alloc_new w _,hx.below.size,hx.holds.D6 (fh0 _)⟩
theorem J4.put (c:J4 w0 H0 O T w H cur):∃H1,j4 H1 w∧D8 H H1∧H1 O=some (.cells cur T (0,0))∧∀b,b≠O→H1 b=H b:=
 ⟨H.put O (.cells cur T (0,0)),c.x.holds.put c.at_,j5.L9 c.oH _,j5.G7 _ _ _,fun _ h=>j5.F3 _ _ h⟩
theorem J4.close {α:Type} [Enc α] {xs:List α} {e:TypeId} {base:Nat} (c:J4 w0 H0 O T w H cur) (o:Own H base w e v xs) (hb:w0.heap.size≤base) (hO:v.ownBlock≠some O):∃H',J4 w0 H0 O T w H' cur∧D8 H H'∧Sl H' v xs:=by
 obtain⟨H',h1,h2,h3,h4⟩:=(o.weaken hb).close c.x
 exact⟨H',⟨h1,c.at_,c.ob,(h4 O hO).trans c.oH⟩,h2,h3⟩
end
section
variable {α:Type} [Enc α] {H:j5} {base:Nat} {w:World} {e:TypeId} {v:Value} {xs:List α}
theorem P6.aV3 {x y:α} {j:Nat} {u:Value} (hj:j<Enc.sz α) (hy:∀ds,Enc.rep H x ds→Enc.rep H y (ds.set j u)):∀{xs:List α} {cs:List Value} {k:Nat},P6 H xs cs→At xs k x→P6 H (xs.set k y) (cs.set (k*Enc.sz α+j) u)
 |[],_,_,_,hx=>by have:=hx.lt;simp at this
 |z::xs,_,0,⟨c1,c2,e,h1,h2⟩,hx=>by
  have:z=x:=by simpa [At]using hx
  subst this
  have hl:=Enc.len h1
  rw[e,Nat.zero_mul,Nat.zero_add,List.set_append_left _ _ (by omega)]
  exact⟨c1.set j u,c2,rfl,hy c1 h1,h2⟩
 |z::xs,_,k+1,⟨c1,c2,e,h1,h2⟩,hx=>by
  have hl:=Enc.len h1
  have hx2:At xs k x:=by simpa [At]using hx
  have h3:=P6.aV3 hj hy h2 hx2
  have h4:(k+1)*Enc.sz α+j-c1.length=k*Enc.sz α+j:=by rw[hl,Nat.add_mul];omega
  rw[e,List.set_append_right _ _ (by rw[hl,Nat.add_mul];omega),h4]
  exact⟨c1,_,rfl,h1,h3⟩
theorem Own.az2 {w':World} (o:Own H base w e v xs) (hb:Below w.heap.size w w'):Own H base w' e v xs:=by
 obtain⟨cells,⟨hl,ho⟩,hr⟩:=o
 refine⟨cells,⟨hl, ?_⟩,hr⟩
 rcases ho with hn|⟨g,cap,cur,he,hbg,hg,rest⟩
 ·exact .inl hn
 ·exact .inr ⟨g,cap,cur,he,hbg,(hb.block g (Array.getElem?_eq_some_iff.1 hg).1).trans hg,rest⟩
theorem Own.addr (o:Own H base w e v xs) {a:Option Addr} {n c:Nat} (hv:v= .slice a n c) (h:0<xs.length):∃g,a=some ⟨g,0,none⟩:=by
 obtain⟨cells,⟨hl,ho⟩,_⟩:=o
 rcases ho with⟨_,hn⟩|⟨g',cap,cur,he,_⟩
 ·omega
 ·rw[hv]at he;cases he;exact⟨g',rfl⟩
theorem Own.as9 {g n c k:Nat} {x:α} (o:Own H base w e (.slice (some ⟨g,0,none⟩) n c) xs) (hx:At xs k x):
 ∃ds,Enc.rep H x ds∧base≤g∧H g=none∧g<w.heap.size∧(∀(j:Nat) (u:Value),ds[j]? =some u→w.cell? ⟨g,k*Enc.sz α+j,none⟩=some u)∧∀i,w.frozen? ⟨g,i,none⟩=false:=by
 obtain⟨cells,⟨hl,ho⟩,hr,hf,hb⟩:=o
 rcases ho with⟨_,hn⟩|⟨g',cap,cur,he,hbg,hg,hnc,hcm,hcs,htake⟩
 ·have:=hx.lt;omega
 ·cases he
  obtain⟨ds,hd,hj⟩:=P6.get hr hx
  refine⟨ds,hd,hbg,hf g rfl,(Array.getElem?_eq_some_iff.1 hg).1,fun j u hu=> ?_,fun i=>by simp[World.frozen?,hg]⟩
  have h1:=hj j u hu
  rw[←htake,List.getElem?_take]at h1
  split at h1
  ·rw[cell_of_row w g _ _ _ _ hg]
   simpa using h1
  ·cases h1
theorem Own.aV3 {g n c k j:Nat} {x y:α} {u:Value} (o:Own H base w e (.slice (some ⟨g,0,none⟩) n c) xs) (hx:At xs k x) (hj:j<Enc.sz α) (hy:∀ds,Enc.rep H x ds→Enc.rep H y (ds.set j u)):
 Own H base (w.setCell ⟨g,k*Enc.sz α+j,none⟩ u) e (.slice (some ⟨g,0,none⟩) n c) (xs.set k y):=by
 obtain⟨cells,⟨hl,ho⟩,hr,hf,hb⟩:=o
 rcases ho with⟨_,hn⟩|⟨g',cap,cur,he,hbg,hg,hnc,hcm,hcs,htake⟩
 ·have:=hx.lt;omega
 ·cases he
  refine⟨cells.set (k*Enc.sz α+j) u,⟨by rw[List.length_set,List.length_set];exact hl,.inr ⟨g,c,cur.setIfInBounds (k*Enc.sz α+j) u,by rw[List.length_set],hbg,Q4 hg _,by rw[List.length_set];exact hnc,hcm,by simp[hcs], ?_⟩⟩,hr.aV3 hj hy hx,hf,by rw[List.length_set];exact hb⟩
  rw[List.length_set]
  simp only[Array.toList_setIfInBounds]
  rw[List.take_set,htake]
end
end
section
open Go.RowKit
theorem Sl.cL7 {α:Type} [Enc α] {H:j5} {b o n c:Nat} {xs:List α} (h:Sl H (.slice (some ⟨b,o,none⟩) n c) xs) {k:Nat} (hk:k≤xs.length):Sl H (.slice (some ⟨b,o+k*Enc.sz α,none⟩) (n-k) (c-k)) (xs.drop k):=by
 obtain⟨a',c',e,h1,h2,h3,h4⟩:=h
 cases e
 have hlen:(xs.drop k).length=xs.length-k:=by simp
 refine⟨_,c-k,by rw[hlen],by omega,by omega,fh1 (Nat.mul_le_mul_right _ (by omega)) h3, ?_⟩
 rcases h4 with h4|⟨b',o',cur,e,fr,ha,hb,ho,hr⟩
 ·subst h4;simp
 ·cases ha
  have hsub:(xs.length-k)*Enc.sz α+k*Enc.sz α=xs.length*Enc.sz α:=by rw[←Nat.add_mul,Nat.sub_add_cancel hk]
  refine .inr ⟨b,o+k*Enc.sz α,cur,e,fr,rfl,hb,by rw[hlen];omega, ?_⟩
  have e1:xs=xs.take k++xs.drop k:=(List.take_append_drop k xs).symm
  rw[e1]at hr
  obtain⟨c1,c2,e2,hr1,hr2⟩:=hr.split
  have hl1:=hr1.len
  rw[fg6,Nat.min_eq_left hk]at hl1
  have:((cur.toList.drop (o+k*Enc.sz α)).take ((xs.drop k).length*Enc.sz α))=c2:=by
   have h5:=congrArg (List.drop (k*Enc.sz α)) e2
   rw[←e1,←hl1,List.drop_left,List.drop_take,List.drop_drop]at h5
   rw[hlen,←h5,hl1]
   congr 1
   omega
  rw[this];exact hr2
theorem ax8 {α:Type} [Enc α] (h1:Enc.sz α=1) {H:j5} {b o n c:Nat} {x:α} {xs:List α} (h:Sl H (.slice (some ⟨b,o,none⟩) n c) (x::xs)) {aT:Option Addr} (Z7:(if c=1 then some (⟨b,o,none⟩:Addr)else some ⟨b,o+1,none⟩)=aT):Sl H (.slice aT xs.length (c-1)) xs:=by
 obtain⟨a',c',e,hc1,hc2⟩:=h.form
 cases e
 have hd:=Sl.cL7 h (k:=1) (by simp)
 rw[h1,Nat.one_mul]at hd
 by_cases hc:c=1
 ·rw[if_pos hc]at Z7
  have:xs=[]:=by
   have:xs.length=0:=by simp at hc1;omega
   exact List.eq_nil_of_length_eq_zero this
  subst this
  exact Sl.nil H aT (by omega)
 ·rw[if_neg hc]at Z7
  subst Z7
  simpa using hd
end
section
open Go.RowKit
attribute [local go_sem] j4.drew j4.alloc j4.drewN WB.holds Oper.semAt_some
structure aQ2 (w0:World) (H0:j5) (RB OB:Nat) (w:World) (H:j5) (lo hi:Int):Prop where
 x:Ext w0 H0 w H
 r:w.heap[RB]? =some (.cells #[.int .i64 0,.int .i64 0] 63 (0,0))
 o:w.heap[OB]? =some (.cells #[.int .i64 lo,.int .i64 hi] 63 (0,0))
 rb:w0.heap.size≤RB
 ob:w0.heap.size≤OB
 rH:H RB=none
 oH:H OB=none
 ne:RB≠OB
theorem aQ2.below {w0 w w':World} {H0 H:j5} {RB OB:Nat} {lo hi:Int} (s:aQ2 w0 H0 RB OB w H lo hi) (hb:Below w.heap.size w w'):aQ2 w0 H0 RB OB w' H lo hi:=
 ⟨s.x.step (hb.mono s.x.below.size) (s.x.holds.below hb),(hb.block RB (Array.getElem?_eq_some_iff.1 s.r).1).trans s.r,(hb.block OB (Array.getElem?_eq_some_iff.1 s.o).1).trans s.o,s.rb,s.ob,s.rH,s.oH,s.ne⟩
theorem aQ2.cells {w0 w:World} {H0 H:j5} {RB OB:Nat} {lo hi:Int} (s:aQ2 w0 H0 RB OB w H lo hi):
 w.cell? ⟨OB,0,none⟩=some (.int .i64 lo)∧w.cell? ⟨OB,1,none⟩=some (.int .i64 hi)∧(∀i,w.frozen? ⟨OB,i,none⟩=false):=
 ⟨by rw[Lib.cell_of_heap s.o];rfl,by rw[Lib.cell_of_heap s.o];rfl,fun i=>Lib.frozen_of_heap s.o i⟩
theorem aQ2.out {w0 w:World} {H0 H:j5} {RB OB:Nat} {lo hi:Int} (s:aQ2 w0 H0 RB OB w H lo hi) (a b:Int):
 ((w.setCell ⟨RB,0,none⟩ (.int .i64 a)).setCell ⟨RB,1,none⟩ (.int .i64 b)).heap[RB]? =some (.cells #[.int .i64 a,.int .i64 b] 63 (0,0))∧Below w0.heap.size w0 ((w.setCell ⟨RB,0,none⟩ (.int .i64 a)).setCell ⟨RB,1,none⟩ (.int .i64 b))∧
   w.cell? ⟨RB,0,none⟩=some (.int .i64 0)∧w.cell? ⟨RB,1,none⟩=some (.int .i64 0)∧(∀i,w.frozen? ⟨RB,i,none⟩=false):=by
 have h1:=M7 (i:=0) s.r (.int .i64 a)
 have h2:=M7 (i:=1) h1 (.int .i64 b)
 exact⟨h2,((s.x.setCell (a:=⟨RB,0,none⟩) s.rb s.rH _).setCell (a:=⟨RB,1,none⟩) s.rb s.rH _).below,by rw[Lib.cell_of_heap s.r];rfl,by rw[Lib.cell_of_heap s.r];rfl,fun i=>Lib.frozen_of_heap s.r i⟩
end
section
open Go.RowKit
attribute [local go_sem] j4.drew j4.alloc j4.drewN WB.holds Oper.semAt_some
theorem cx8 (s:G5) (i:Nat) (l:List Nat) (k:Nat):ay9 s i (l++[k])=ay9 s i l+(if O7 s k i=0 then 1 else 0):=by
 unfold ay9
 rw[List.filter_append,ff4]
 by_cases h:O7 s k i=0
 ·simp[h]
 ·simp[h]
theorem cY6 (x y:Int) (W:World):(Instr.field 63 (.agg #[.int .i64 x,.int .i64 y]) 0).run Tryz.prog W= .ok (.int .i64 x) W:=by kernel_rfl
attribute [local go_sem] cY6
theorem bs9 (f:Nat→Int):∀(l:List Nat) (a:Int),-12≤a∧a≤12→(∀k∈l,-12≤f k∧f k≤12)→-12≤l.foldl (fun o j=>min o (f j)) a∧l.foldl (fun o j=>min o (f j)) a≤12
 |[],a,h,_=>h
 |k::l,a,h,hl=>bs9 f l (min a (f k)) (by have:=hl k (by simp);omega) fun j hj=>hl j (by simp[hj])
theorem bt0 {s:G5} (v:Y0 s) {k i:Nat} (hk:k<s.wo.length) (hi:i<s.mo.length): -12≤O7 s k i∧O7 s k i≤12:=by
 obtain⟨x,hx⟩:=At.mk hk
 obtain⟨n,hn⟩:=At.mk (show i<x.length by rw[v.cL5 hx];exact hi)
 obtain⟨m,hm⟩:=At.mk hi
 have h1:=v.wbd hx hn
 have h2:=(v.mbd hm).2.1
 unfold O7
 rw[ck8 hx,be9 hm,hn.getD]
 omega
theorem aN7 {s:G5} {k:Nat} (h:k∈F4 s):k<s.wo.length:=by
 unfold F4 am1 at h
 exact List.mem_range.1 (List.mem_filter.1 h).1
theorem bK8 {s:G5} (v:Y0 s) {i:Nat} (hi:i<s.mo.length): -12≤as6 s i∧as6 s i≤12:=by
 unfold as6
 have h:=fun k (hk:k∈F4 s)=>bt0 v (aN7 hk) hi
 cases hw:F4 s with
 |nil=>show-12≤(0:Int)∧(0:Int)≤12;omega
 |cons k l=>
  rw[hw]at h
  exact bs9 _ l _ (h k (by simp)) fun j hj=>h j (by simp[hj])
theorem bt1 {s:G5} (v:Y0 s) (p:Int):∀t,t≤s.mo.length→-12*(t:Int)≤as7 s p t∧as7 s p t≤12*(t:Int)
 |0,_=>by simp[as7]
 |t+1,ht=>by
  have ih:=bt1 v p t (by omega)
  have hb:=bK8 v (show t<s.mo.length by omega)
  unfold as7
  split<;>omega
end
section
open Go.RowKit
attribute [local go_sem] j4.drew j4.alloc j4.drewN WB.holds Oper.semAt_some
theorem cY7 {s:G5} {is:Bool} (h:aa9 s is=0):Y0 s∧0<(F4 s).length∧is=true:=by
 unfold aa9 at h
 cases e:Y5 s with
 |false=>rw[e]at h;cases h
 |true=>
  rw[e,if_pos rfl]at h
  cases is with
  |false=>cases h
  |true=>
   rw[if_pos rfl]at h
   by_cases g:(F4 s).length=0
   ·rw[if_pos g]at h;cases h
   ·exact⟨aj5.1 e,by omega,rfl⟩
theorem cl1 (s:G5) (i:Nat):aY7 s i≤(F4 s).length:=by unfold aY7 ay9;exact List.length_filter_le _ _
theorem cY8 {T A W:Nat} (h:W=max T (A-T)) (hT:T≤A) (hA:A≤6):wrap64 ((A:Int)-(T:Int))=(A:Int)-(T:Int)∧(if(T:Int)<(A:Int)-(T:Int)then(A:Int)-(T:Int)else(T:Int))=(W:Int):=by
 refine⟨wrap64_in _ (by omega) (by omega), ?_⟩
 split<;>omega
end
section
open Go.RowKit
attribute [local go_sem] j4.drew j4.alloc j4.drewN WB.holds Oper.semAt_some
theorem cY9 {fr sh:Int} (hf:1≤fr) (h:0<sh):aM3 fr sh=1+aM3 fr (sh-fr):=by
 unfold aM3
 rw[if_pos h,show sh+fr-1=(sh-1)+1*fr by omega,Int.add_mul_ediv_right _ _ (by omega)]
 by_cases g:0<sh-fr
 ·rw[if_pos g,show sh-fr+fr-1=sh-1 by omega];omega
 ·rw[if_neg g,Int.ediv_eq_zero_of_lt (by omega) (by omega)]
  rfl
theorem bZ5 {fr sh:Int} (h:¬0<sh):aM3 fr sh=0:=by unfold aM3;rw[if_neg h]
theorem bT6 {fr:Int} (hf:1≤fr):∀(m:Nat) (sh:Int),sh≤(m:Int)→0≤aM3 fr sh∧aM3 fr sh≤(m:Int)
 |0,sh,h=>by rw[bZ5 (by omega)];omega
 |m+1,sh,h=>by
  by_cases g:0<sh
  ·have:=bT6 hf m (sh-fr) (by omega)
   rw[cY9 hf g];omega
  ·rw[bZ5 g];omega
theorem cl2 {s:G5} (v:Y0 s) (p:Int) {n:Int} (hn:0≤n∧n≤12):wrap64 (n-aA6 s p)=n-aA6 s p∧-100≤n-aA6 s p∧n-aA6 s p≤100:=by
 have h1:=bt1 v p s.mo.length (fh0 _)
 have h2:=v.m5
 have h3:aA6 s p=as7 s p s.mo.length:=rfl
 rw[h3]
 exact⟨wrap64_in _ (by omega) (by omega),by omega,by omega⟩
theorem bH1 {s:G5} (v:Y0 s):∀t,t≤s.wa.length→0≤ax7 s t∧ax7 s t≤100*(t:Int)
 |0,_=>by simp[ax7]
 |t+1,ht=>by
  have ih:=bH1 v t (by omega)
  obtain⟨n,hn⟩:=At.mk (show t<s.wa.length by omega)
  have hf:=within_iff.1 v.fr
  have hw:=within_iff.1 (List.all_eq_true.1 v.wa n hn.mem)
  have hb:=cl2 v (t:Int) hw
  have hbt:=bT6 (fr:=s.fr) (by omega) 100 (n-aA6 s (t:Int)) (by omega)
  unfold ax7
  rw[hn.getD]
  omega
end
section
open Go.RowKit
attribute [local go_sem] j4.drew j4.alloc j4.drewN WB.holds
def aJ6 (s:Nat) (k:Nat):List Int:=((List.range k).filter fun i=>s.testBit i).map Int.ofNat
def af3 (s:Nat):List Int:=aJ6 s 4
theorem cL8 (s k:Nat):aJ6 s (k+1)=if s.testBit k then aJ6 s k++[(k:Int)]else aJ6 s k:=by
 unfold aJ6
 rw[List.range_succ,List.filter_append]
 cases e:s.testBit k<;>simp[e]
theorem bZ6 (s k:Nat):(aJ6 s k).length≤k:=by
 unfold aJ6
 rw[fg5]
 exact fh1 (List.length_filter_le _ _) (by simp)
theorem cZ0:∀s:Fin 16,∀k:Fin 4,bits .and .u64 ((s.val:Int) / 2 ^ k.val) 1=if s.val.testBit k.val then 1 else 0:=by decide
theorem cx9 (s:Nat) (hs:s<16) (H:j5) (w:World) (hw:j4 H w):
 Calls Tryz.prog 61 #[.int .u64 s] w (Post w H fun v H'=>Sl H' v (af3 s)):=by
 go_enter Tryz.func61,Tryz.ntmps61
 go_wp2
 go_loopw [3,4,5] (fun v _ i wr=>∃(k:Nat) (acc:List Int),k≤4∧i= .int .i64 k∧Hid (acc=aJ6 s k)∧Ext w H wr H∧Own H w.heap.size wr 3 v acc) (fun _ _ i _=>4-(intOf i).toNat)
 case atStart=>exact⟨0,[],fh3 _,rfl,rfl,Ext.refl hw,Own.nil _ _ _ _⟩
 case round=>
  obtain⟨k,acc,hk,rfl,hacc,E5,hown⟩:=hrel
  have hwr:=E5.holds
  by_cases hlk:k<4
  ·have hb:=cZ0 ⟨s,hs⟩ ⟨k,hlk⟩
   simp only at hb
   have hsucc:=cL8 s k
   have er4:acc.length≤4:=by rw[hacc.out];exact fh1 (bZ6 s k) (by omega)
   cases g:s.testBit k
   all_goals
    rw[g]at hb hsucc
    replace hsucc:=fe6 hsucc
    replace g:=fe6 g
   ·rw[if_neg (by decide)]at hb
    go_wp2_with fail
    go_roundw
    case rel=>exact⟨k+1,acc,by omega,by go_num,by show acc=_;rw[hacc.out,hsucc.out];rfl,E5,hown⟩
    case measure=>simp[intOf];omega
   ·rw[if_pos rfl]at hb
    obtain⟨av,cv,ev,_,_⟩:=hown.form
    subst ev
    go_wp2_with(first|((at_builtin;have hgd:=hown;clear hgd;refine bs2 ag8 _ _ E5 hown (k:Int) (by unfold K8;omega) (by omega) rfl rfl rfl rfl ?_;intro vA wA ef2 hxA hwA)))
    go_roundw
    case rel=>exact⟨k+1,acc++[(k:Int)],by omega,by go_num,by show _=_;rw[hsucc.out,hacc.out];rfl,hxA,ef2⟩
    case measure=>simp[intOf];omega
  ·go_wp2_with fail
   go_ret
   obtain⟨H',hx',hle',hs',_⟩:=hown.close E5
   refine⟨_,H',rfl,hx', ?_⟩
   rw[hacc.out,show k=4 by omega]at hs'
   exact hs'
end
section
open Go.RowKit
attribute [local go_sem] j4.drew j4.alloc j4.drewN WB.holds
def aw4 (h:A9) (r:List Int) (k:Nat):List Int:=((List.range k).filter fun i=>decide (h.ts.getD i 0<r.getD i 0)).map Int.ofNat
theorem cy0 (h:A9) (r:List Int) (k:Nat):aw4 h r (k+1)=if h.ts.getD k 0<r.getD k 0 then aw4 h r k++[(k:Int)]else aw4 h r k:=by
 unfold aw4
 rw[List.range_succ,List.filter_append]
 by_cases e:h.ts.getD k 0<r.getD k 0
 ·rw[if_pos e,List.map_append];simp only[List.filter_cons,decide_eq_true e,List.filter_nil];rfl
 ·rw[if_neg e,List.map_append];simp only[List.filter_cons,decide_eq_false e,List.filter_nil];simp
theorem cL9 {h:A9} {r:List Int} {k:Nat} {x:Int} (hx:x∈aw4 h r k):0≤x∧x≤(k:Int)-1:=by
 unfold aw4 at hx
 obtain⟨i,hi,rfl⟩:=List.mem_map.1 hx
 have:=List.mem_range.1 (List.mem_filter.1 hi).1
 constructor
 ·exact Int.natCast_nonneg i
 ·have:(i:Int)<k:=Int.ofNat_lt.2 this
  show(i:Int)≤_
  omega
theorem cZ2:∀u:Fin 32,∀b:Fin 5,bits .or .u64 (u.val:Int) (2 ^ b.val)=((u.val |||2 ^ b.val:Nat):Int):=by decide
theorem dn1 {n:Nat} (hn:n≤5) {acc:List Int} (h:∀x∈acc,0≤x∧x≤(n:Int)-1) {b:Nat} (hb:b<5):bits .or .u64 (ub acc:Int) (2 ^ b)=(ub (acc++[(b:Int)]):Nat):=by
 have h1:=cZ2 ⟨ub acc,bK1 hn h⟩ ⟨b,by omega⟩
 simp only at h1
 rw[h1,bT5,fh8]
theorem cM0:∀b:Fin 5,IntKind.u64.wrap (2 ^ b.val)=2 ^ b.val:=by decide
theorem bZ7 {b:Nat} (hb:b<5):IntKind.u64.wrap (2 ^ b)=2 ^ b:=cM0 ⟨b,hb⟩
theorem cZ3 (vm vb vt:Value) (h:A9) (r0 r1 r2 r3:Int) (H:j5) (w:World) (hw:j4 H w) (hh:Hou H vm vb vt h) (ht4:h.ts.length≤4)
 (hr:(-1≤r0∧r0≤2000000)∧(-1≤r1∧r1≤2000000)∧(-1≤r2∧r2≤2000000)∧(-1≤r3∧r3≤2000000)):
 Calls Tryz.prog 67 #[U2 vm vb vt h,.agg #[.int .i64 r0,.int .i64 r1,.int .i64 r2,.int .i64 r3]] w (I1 w (.int .u64 (ub (aw4 h [r0,r1,r2,r3] h.ts.length):Nat))):=by
 obtain⟨at',ct,rfl,ht1,ht2⟩:=hh.t.form
 go_enter Tryz.func67,Tryz.ntmps67
 go_upto_region 1 with(refine af8 rfl _ rfl (Ext.refl hw) ?_;intro B w1 H1 hle hx hB hBw;obtain⟨hc0,hc1,hc2,hc3⟩:=R6 hB;clear hB hw;have hw1:=hx.holds)
 have hn:H1 w1.heap.size=none:=hw1.D6 (fh0 _)
 have hxz:=(hx.alloc (.cells #[.int .i64 r0,.int .i64 r1,.int .i64 r2,.int .i64 r3] 124)).freeze hx.below.size (heap_alloc_new w1 _)
 have hle2:=j5.L9 hn (.cells #[.int .i64 r0,.int .i64 r1,.int .i64 r2,.int .i64 r3] 124 (0,0))
 obtain⟨r,hrr⟩:∃r,Hid (r=[r0,r1,r2,r3]):=⟨_,rfl⟩
 have hcr:∀k,k<4→∃x,At r k x∧(-1≤x∧x≤2000000)∧∀w,j4 (H1.put w1.heap.size (.cells #[.int .i64 r0,.int .i64 r1,.int .i64 r2,.int .i64 r3] 124 (0,0))) w→w.cell? ⟨w1.heap.size,k,none⟩=some (.int .i64 x):=by
  intro k hk
  have hc:=fun(w:World) (hw:j4 (H1.put w1.heap.size (.cells #[.int .i64 r0,.int .i64 r1,.int .i64 r2,.int .i64 r3] 124 (0,0))) w)=>D7 (j5.G7 _ _ _) hw k
  rw[hrr.out]
  match k,hk with
  |0,_=>exact⟨r0,rfl,hr.1,fun w hw=>(hc w hw).trans rfl⟩
  |1,_=>exact⟨r1,rfl,hr.2.1,fun w hw=>(hc w hw).trans rfl⟩
  |2,_=>exact⟨r2,rfl,hr.2.2.1,fun w hw=>(hc w hw).trans rfl⟩
  |3,_=>exact⟨r3,rfl,hr.2.2.2,fun w hw=>(hc w hw).trans rfl⟩
 generalize H1.put w1.heap.size (.cells #[.int .i64 r0,.int .i64 r1,.int .i64 r2,.int .i64 r3] 124 (0,0))=H2 at*
 generalize w1.alloc (.cells #[.int .i64 r0,.int .i64 r1,.int .i64 r2,.int .i64 r3] 124)=wz at*
 generalize w1.heap.size=c at*
 replace hc0:=lift hle2 hc0
 replace hc1:=lift hle2 hc1
 replace hc2:=lift hle2 hc2
 replace hc3:=lift hle2 hc3
 have hwz:=hxz.holds
 have htz:=(hh.t.mono hle).mono hle2
 replace hcr:=fe6 hcr
 clear hx hw1 hle hle2 hn
 go_wp2_with fail
 go_loopw [5,6,7,11] (fun u _ _ i wr=>∃(k:Nat) (acc:List Int),k≤h.ts.length∧i= .int .i64 k∧u= .int .u64 (ub acc:Nat)∧Hid (acc=aw4 h r k)∧Ext w H wr H2) (fun _ _ _ i _=>h.ts.length-(intOf i).toNat)
 case atStart=>exact⟨0,[],fh3 _,rfl,rfl,rfl,hxz⟩
 case round=>
  clear hxz hwz
  obtain⟨k,acc,hk,rfl,rfl,hacc,E5⟩:=hrel
  have hwr:=E5.holds
  by_cases hlk:k<h.ts.length
  ·obtain⟨t,htk⟩:=At.mk hlk
   obtain⟨b,o,cc,he,hi,hrt⟩:=htz.int htk
   cases he
   obtain⟨x,hxk,hxb,hcx⟩:=hcr.out k (by omega)
   have hsucc:=cy0 h r k
   rw[htk.getD,hxk.getD,←hacc.out]at hsucc
   have hor:=dn1 (n:=4) (by omega) (acc:=acc) (fun y hy=>by rw[hacc.out]at hy;have:=cL9 hy;omega) (b:=k) (by omega)
   cases g:decide (t<x)
   ·rw[if_neg (of_decide_eq_false g)]at hsucc
    replace hsucc:=fe6 hsucc
    go_wp2_with fail
    go_roundw
    case rel=>exact⟨k+1,acc,by omega,by go_num,rfl,hsucc.out.symm,E5⟩
    case measure=>simp[intOf];omega
   ·rw[if_pos (of_decide_eq_true g)]at hsucc
    replace hsucc:=fe6 hsucc
    go_wp2_with fail
    go_roundw
    case rel=>exact⟨k+1,acc++[(k:Int)],by omega,by go_num,by rw[bZ7 (by omega),hor],hsucc.out.symm,E5⟩
    case measure=>simp[intOf];omega
  ·go_wp2_with fail
   go_ret
   exact⟨by rw[←hrr.out,←show k=h.ts.length by omega,←hacc.out];rfl,E5.below⟩
end
section
open Go.RowKit
structure Row (H:j5) (base:Nat) (w:World) (t:TypeId) (b:Nat) (xs:List Int):Prop where
 at_:w.heap[b]? =some (.cells (xs.map (Value.int .i64)).toArray t (0,0))
 base:base≤b
 free:H b=none
section
variable {H H':j5} {base b:Nat} {w w':World} {t:TypeId} {xs:List Int}
theorem Row.lt (h:Row H base w t b xs):b<w.heap.size:=(Array.getElem?_eq_some_iff.1 h.at_).1
theorem Row.cell (h:Row H base w t b xs) {i:Nat} {x:Int} (hx:At xs i x):w.cell? ⟨b,i,none⟩=some (.int .i64 x):=by
 rw[cell_of_row w b i _ _ _ h.at_]
 simp[show xs[i]? =some x from hx]
theorem Row.fz (h:Row H base w t b xs) (i:Nat):w.frozen? ⟨b,i,none⟩=false:=by simp[World.frozen?,h.at_]
theorem Row.set (h:Row H base w t b xs) (i:Nat) (y:Int):Row H base (w.setCell ⟨b,i,none⟩ (.int .i64 y)) t b (xs.set i y):=by
 refine⟨?_,h.base,h.free⟩
 have:=Q4 (i:=i) h.at_ (.int .i64 y)
 rw[this]
 simp[List.map_set]
theorem Row.ext (h:Row H base w t b xs) (hx:Ext w H w' H'):Row H' base w' t b xs:=
 ⟨(hx.below.block b h.lt).trans h.at_,h.base,(hx.same b h.lt).trans h.free⟩
theorem Row.snap (h:Row H base w t b xs) (hf:H' b=none):Row H' base w t b xs:=⟨h.at_,h.base,hf⟩
theorem Row.drew (h:Row H base w t b xs):Row H base w.drew t b xs:=⟨h.at_,h.base,h.free⟩
theorem Row.alloc (h:Row H base w t b xs) (o:Obj):Row H base (w.alloc o) t b xs:=⟨(heap_alloc_old w o h.lt).trans h.at_,h.base,h.free⟩
theorem Row.other (h:Row H base w t b xs) {a:Addr} (ha:a.block≠b) (v:Value):Row H base (w.setCell a v) t b xs:=by
 refine⟨?_,h.base,h.free⟩
 show(w.heap.modify a.block _)[b]? =_
 rw[Array.getElem?_modify,if_neg ha]
 exact h.at_
end
end
section
def aV5 (h:A9) (plan:List (List Int)):List Int:=ah5 h 0 plan (List.replicate 5 (-1))
theorem bZ8 (h:A9) (mc:ah4) (r:List Int):∀(l:List Int) (ts:List Int) (now:Int) (prev:Option Int),(∀x∈l,0≤x∧x<(ts.length:Int))→al3 h mc l (ts++r,now,prev)=((al3 h mc l (ts,now,prev)).1++r,(al3 h mc l (ts,now,prev)).2)
 |[],_,_,_,_=>rfl
 |b::l,ts,now,prev,hl=>by
  have hb:=hl b (by simp)
  simp only[al3]
  rw[List.set_append_left _ _ (by omega)]
  exact bZ8 h mc r l _ _ _ (fun x hx=>by rw[List.length_set];exact hl x (by simp[hx]))
theorem bC8 (h:A9) (r:List Int):∀(p:List (List Int)) (m:Nat) (ts:List Int),(∀x∈p.flatten,0≤x∧x<(ts.length:Int))→ah5 h m p (ts++r)=ah5 h m p ts++r
 |[],_,_,_=>rfl
 |l::p,m,ts,hp=>by
  simp only[ah5,bz3]
  rw[bZ8 h (aw2 h m) r l ts _ none (fun x hx=>hp x (by simp[hx]))]
  exact bC8 h r p (m+1) _ (fun x hx=>by rw[aY6];exact hp x (by simp[hx]))
theorem bT7 {h:A9} (hb:h.bs.length≤5) {plan:List (List Int)} (hp:aa8 h plan=true):aV5 h plan=aw3 h plan++List.replicate (5-h.bs.length) (-1):=by
 unfold aV5 aw3
 rw[show List.replicate 5 (-1:Int)=List.replicate h.bs.length (-1)++List.replicate (5-h.bs.length) (-1)by rw[List.replicate_append_replicate,show h.bs.length+(5-h.bs.length)=5 by omega]]
 refine bC8 h _ plan 0 _ (fun x hx=> ?_)
 simp only[aa8,fh9]at hp
 have:=(au5.1 hp.2).1 x hx
 rw[List.length_replicate];omega
theorem dn2 (h:A9) (plan:List (List Int)):(aV5 h plan).length=5:=by unfold aV5;rw[aE5];rfl
end
section
open Go.RowKit
attribute [local go_sem] j4.drew j4.alloc j4.drewN WB.holds
def arr (xs:List Int):Value:= .agg (xs.map (Value.int .i64)).toArray
theorem cZ4 (vm vb vt vp:Value) (h:A9) (plan:List (List Int)) (H:j5) (w:World) (hw:j4 H w) (hh:Hou H vm vb vt h) (hp:Sl H vp plan) (hv:Valid h) (hpl:aa8 h plan=true):
 Calls Tryz.prog 102 #[U2 vm vb vt h,vp] w (I1 w (arr (aV5 h plan))):=by
 obtain⟨am,cm,rfl,hm1,hm2⟩:=hh.m.form
 obtain⟨ab,cb,rfl,hb1,hb2⟩:=hh.b.form
 obtain⟨ap,cp,rfl,hp1,hp2⟩:=hp.form
 have hb5:=hv.b5
 go_enter Tryz.func102,Tryz.ntmps102
 go_upto_region 2 with(refine af8 rfl _ rfl (Ext.refl hw) ?_;intro B w1 H1 hle hx hB hBw;obtain⟨hc0,hc1,hc2,hc3⟩:=R6 hB;clear hB hw;have hw1:=hx.holds)
 have Y4:Row H1 w.heap.size ((w1.alloc (.cells #[.int .i64 0,.int .i64 0,.int .i64 0,.int .i64 0,.int .i64 0] 171)).alloc (.cells #[.int .i64 0,.int .i64 0,.int .i64 0,.int .i64 0,.int .i64 0] 171)) 171 w1.heap.size (List.replicate 5 0):=
  ⟨(heap_alloc_old _ _ (by simp)).trans (heap_alloc_new _ _),hx.below.size,hw1.D6 (fh0 _)⟩
 have af4:Row H1 w.heap.size ((w1.alloc (.cells #[.int .i64 0,.int .i64 0,.int .i64 0,.int .i64 0,.int .i64 0] 171)).alloc (.cells #[.int .i64 0,.int .i64 0,.int .i64 0,.int .i64 0,.int .i64 0] 171)) 171 (w1.heap.size+1) (List.replicate 5 0):=
  ⟨by have h:=heap_alloc_new (w1.alloc (.cells #[.int .i64 0,.int .i64 0,.int .i64 0,.int .i64 0,.int .i64 0] 171)) (.cells #[.int .i64 0,.int .i64 0,.int .i64 0,.int .i64 0,.int .i64 0] 171);rw[World.size_alloc]at h;exact h,by have:=hx.below.size;omega,hw1.D6 (by omega)⟩
 have hxz:=(hx.alloc (.cells #[.int .i64 0,.int .i64 0,.int .i64 0,.int .i64 0,.int .i64 0] 171)).alloc (.cells #[.int .i64 0,.int .i64 0,.int .i64 0,.int .i64 0,.int .i64 0] 171)
 have hne:w1.heap.size≠w1.heap.size+1:=by omega
 generalize(w1.alloc (.cells #[.int .i64 0,.int .i64 0,.int .i64 0,.int .i64 0,.int .i64 0] 171)).alloc (.cells #[.int .i64 0,.int .i64 0,.int .i64 0,.int .i64 0,.int .i64 0] 171)=wz at*
 generalize w1.heap.size+1=ob at*
 generalize w1.heap.size=rb at*
 have hpm:=hp.mono hle
 have hmm:=hh.m.mono hle
 have hbm:=hh.b.mono hle
 clear hx hw1 hle
 go_wp2_with fail
 go_loopw [6,14] (fun _ i wr=>∃(k:Nat) (acc:List Int),k≤5∧i= .int .i64 k∧Hid (acc=List.replicate k (-1)++List.replicate (5-k) 0)∧Ext w H wr H1∧Row H1 w.heap.size wr 171 rb (List.replicate 5 0)∧Row H1 w.heap.size wr 171 ob acc) (fun _ i _=>5-(intOf i).toNat)
 case atStart=>exact⟨0,_,fh3 _,rfl,rfl,hxz,Y4,af4⟩
 case round=>
  clear hxz Y4 af4
  obtain⟨k,acc,hk,rfl,hacc,E5,Y4,af4⟩:=hrel
  have hwr:=E5.holds
  by_cases hlk:k<5
  ·obtain⟨z,hz⟩:=At.mk (xs:=acc) (k:=k) (by rw[hacc.out];simp;omega)
   have hcz:=af4.cell hz
   have hfz:=af4.fz k
   go_wp2_with fail
   go_roundw
   case rel=>
    refine⟨k+1,acc.set k (-1),by omega,by go_num, ?_,E5.setCell (a:=⟨ob,k,none⟩) af4.base af4.free _,Y4.other (Ne.symm hne) _,af4.set k (-1)⟩
    show acc.set k (-1)=_
    rw[hacc.out]
    apply List.ext_getElem
    ·simp;omega
    ·intro j h1 h2
     simp only[List.getElem_set,List.getElem_append,List.getElem_replicate,List.length_replicate]
     split<;>split<;>(try split)<;>first|rfl|omega
   case measure=>simp[intOf];omega
  ·have hk5:k=5:=by omega
   replace hacc:Hid (acc=List.replicate 5 (-1)):=by show _=_;rw[hacc.out,hk5];rfl
   replace hk5:=fe6 hk5
   go_wp2_with fail
   go_loopw [7,8,9,10,12,13,22] (fun _ _ _ _ _ _ i wr=>∃(m:Nat) (acc:List Int),m≤plan.length∧i= .int .i64 m∧Hid (acc=ah5 h 0 (plan.take m) (List.replicate 5 (-1)))∧Ext w H wr H1∧Row H1 w.heap.size wr 171 rb (List.replicate 5 0)∧Row H1 w.heap.size wr 171 ob acc) (fun _ _ _ _ _ _ i _=>plan.length-(intOf i).toNat)
   case atStart=>exact⟨0,acc,fh3 _,rfl,hacc,E5,Y4,af4⟩
   case round=>
    clear E5 hwr hacc Y4 af4
    obtain⟨m,cl3,hm,rfl,bi2,E5,Y4,af4⟩:=hrel
    have hwr:=E5.holds
    by_cases hlm:m<plan.length
    ·obtain⟨l,hml⟩:=At.mk hlm
     obtain⟨b,o,c,u,he,hu,hr⟩:=hpm.list hml
     cases he
     obtain⟨al,cl,rfl,hl1,hl2⟩:=hu.form
     have hpl':=hpl
     simp only[aa8,fh9,decide_eq_true_eq]at hpl'
     obtain⟨mc,hmc⟩:=At.mk (show m<h.ms.length by omega)
     have eS0:=hmc.lt
     obtain⟨bm,om,cm',he,⟨hmr,hmp,hms⟩,hcr,hcp,hcs⟩:=hmm.aw2 hmc
     cases he
     have eQ8:l.length≤5:=fh1 (aS4 hpl hml) hb5
     have hrd:=ci8 hv hmc
     have hgood:∀x∈l,0≤x∧x≤(h.bs.length:Int)-1:=fun x hx=>(au5.1 hpl'.2).1 x (List.mem_flatten.2 ⟨l,hml.mem,hx⟩)
     clear hpl'
     go_wp2_with fail
     go_loopw [9,10,12,13,35] (fun nw bf _ _ i wr=>∃(k:Nat) (acc:List Int) (now:Int) (prev:Option Int) (pe:Int),k≤l.length∧i= .int .i64 k∧nw= .int .i64 now∧bf= .int .i64 pe∧Hid ((prev=none∧pe= -1)∨(prev=some pe∧0≤pe))∧(0≤now∧now≤100+90*k)∧Hid ((acc,now,prev)=al3 h mc (l.take k) (cl3,mc.r,none))∧Ext w H wr H1∧Row H1 w.heap.size wr 171 rb (List.replicate 5 0)∧Row H1 w.heap.size wr 171 ob acc) (fun _ _ _ _ i _=>l.length-(intOf i).toNat)
     case atStart=>exact⟨0,cl3,mc.r,none,-1,fh3 _,rfl,rfl,rfl,.inl ⟨rfl,rfl⟩,by omega,rfl,E5,Y4,af4⟩
     case round=>
      clear E5 hwr Y4 af4
      obtain⟨k,acc,now,prev,pe,hk,rfl,rfl,rfl,hpe,eS1,hst,E5,Y4,af4⟩:=hrel
      have hwr:=E5.holds
      by_cases hlk:k<l.length
      ·obtain⟨x,hxk⟩:=At.mk hlk
       obtain⟨b',o',c',he,hi,hr'⟩:=hu.int hxk
       cases he
       obtain⟨hx0,hx1⟩:=hgood x hxk.mem
       obtain⟨j,rfl⟩:=Int.eq_ofNat_of_zero_le hx0
       obtain⟨y,hyj⟩:=At.mk (show j<h.bs.length by omega)
       have hjlt:=hyj.lt
       clear hx0 hx1
       obtain⟨bb,ob',cb',he,⟨hy1,hy2,hy3⟩,hct,dM8,hce⟩:=hbm.X9 hyj
       cases he
       have hyb:=List.all_eq_true.1 hv.bs y hyj.mem
       simp only[al7,fh9,within_iff]at hyb
       obtain⟨hq1,hq2,hq3,hq4⟩:=dG3 hv hmc hyj
       go_upto_region 15 with fail
       have er5:H1 wr.heap.size=none:=hwr.D6 (fh0 _)
       have hxx:=(E5.alloc (.cells #[.int .i64 y.t,.int .i64 y.h,.int .i64 y.e] 127)).freeze E5.below.size (heap_alloc_new wr _)
       have hlex:=j5.L9 er5 (.cells #[.int .i64 y.t,.int .i64 y.h,.int .i64 y.e] 127 (0,0))
       have hcx:=fun(w:World) (hw:j4 (H1.put wr.heap.size (.cells #[.int .i64 y.t,.int .i64 y.h,.int .i64 y.e] 127 (0,0))) w) (i:Nat)=>D7 (j5.G7 _ _ _) hw i
       have dM9:(H1.put wr.heap.size (.cells #[.int .i64 y.t,.int .i64 y.h,.int .i64 y.e] 127 (0,0))) ob=none:=(j5.F3 _ _ (by have:=af4.lt;omega)).trans af4.free
       have er6:(H1.put wr.heap.size (.cells #[.int .i64 y.t,.int .i64 y.h,.int .i64 y.e] 127 (0,0))) rb=none:=(j5.F3 _ _ (by have:=Y4.lt;omega)).trans Y4.free
       have cZ5:=(Y4.alloc (.cells #[.int .i64 y.t,.int .i64 y.h,.int .i64 y.e] 127)).snap er6
       have cZ6:=(af4.alloc (.cells #[.int .i64 y.t,.int .i64 y.h,.int .i64 y.e] 127)).snap dM9
       have er7:=j5.G7 H1 wr.heap.size (.cells #[.int .i64 y.t,.int .i64 y.h,.int .i64 y.e] 127 (0,0))
       generalize H1.put wr.heap.size (.cells #[.int .i64 y.t,.int .i64 y.h,.int .i64 y.e] 127 (0,0))=H2 at*
       generalize wr.alloc (.cells #[.int .i64 y.t,.int .i64 y.h,.int .i64 y.e] 127)=wx at*
       generalize wr.heap.size=cx at*
       have eS2:∀w,j4 H2 w→w.cell? ⟨cx,1,none⟩=some (.int .i64 y.h):=fun w hw=>hcx w hw 1
       have dN0:∀w,j4 H2 w→w.cell? ⟨cx,2,none⟩=some (.int .i64 y.e):=fun w hw=>hcx w hw 2
       have hwx:=hxx.holds
       have hd0:=lift hlex hc0
       have hd1:=lift hlex hc1
       have hd2:=lift hlex hc2
       have hd3:=lift hlex hc3
       have eS3:=lift hlex hcp
       have bd3:=congrArg (fun s=>s.1) hst.out
       have aH3:=congrArg (fun s=>s.2.1) hst.out
       have dn3:=congrArg (fun s=>s.2.2) hst.out
       simp only at bd3 aH3 dn3
       have hstep:∀(d:Bool),prev.any (fun e=>e != y.e)=d→Hid (stepT h mc now prev (j:Int)=now+(if d then h.ch else 0)+y.h*mc.p):=fun d hd=>by
        show stepT h mc now prev (j:Int)=_
        unfold stepT;rw[hyj.X9,hd]
       have hfin:∀(n2:Int),n2=stepT h mc now prev (j:Int)→Hid ((acc.set j n2,n2,some y.e)=al3 h mc (l.take (k+1)) (cl3,mc.r,none)):=fun n2 hn=>by
        show _=_
        rw[cK4 hxk,←bd3,←aH3,←dn3,←hn,fh8,hyj.X9]
       have hal:Hid (acc.length=5):=fe6 (by rw[bd3,aY6,bi2.out,aE5];rfl)
       clear bd3 aH3 dn3 hst
       obtain⟨z,hz⟩:=At.mk (xs:=acc) (k:=j) (by rw[hal.out];omega)
       have eS4:ob≠cx:=by rintro rfl;exact absurd dM9 (by rw[er7];simp)
       have tail:∀(now':Int),now'=stepT h mc now prev (j:Int)→(0≤now'∧now'≤100+90*(k+1:Nat))→True:=fun _ _ _=>trivial
       clear tail
       rcases hpe.out with⟨hp0,rfl⟩|⟨hp0,eS5⟩
       ·replace hstep:=hstep false (by rw[hp0];rfl)
        replace hp0:=fe6 hp0
        ·go_wp2_with fail
         refine E8 H2 (by kernel_rfl) (by kernel_rfl) hwx (fun hne=> ?_)
         repeat go_big_quiet_step((first|fail))
         refine wpQuiet_nil ?_
         rintro⟨w2,hw2,hb2⟩
         clear hne
         have hx2:=(Ext.refl hwx).step hb2 hw2
         have hr0:=cZ5.ext hx2
         have hr1:=cZ6.ext hx2
         have dn4:=hxx.trans hx2
         have hcz:=hr1.cell hz
         have hfz:=hr1.fz j
         have er8:=dN0 _ hw2
         go_wp2_with fail
         go_region
         all_goals
          go_wp2_with fail
          go_roundw
          case rel=>exact⟨k+1,acc.set j _,_,some y.e,y.e,by omega,by go_num,rfl,rfl,.inr ⟨rfl,by omega⟩,by omega,hfin _ (by rw[hstep.out];simp),((dn4.drew.setCell (a:=⟨ob,j,none⟩) hr1.base hr1.free _).back E5 hlex),(hr0.drew.other (a:=⟨ob,j,none⟩) (Ne.symm hne) _).snap Y4.free,(hr1.drew.set j _).snap af4.free⟩
          case measure=>simp[intOf];omega
       ·replace hstep:=hstep (y.e != pe) (by rw[hp0];exact bne_comm)
        replace hp0:=fe6 hp0
        cases hd:(y.e != pe)
        all_goals
         rw[hd]at hstep
         go_wp2_with fail
         refine E8 H2 (by kernel_rfl) (by kernel_rfl) hwx (fun hne=> ?_)
         repeat go_big_quiet_step((first|fail))
         refine wpQuiet_nil ?_
         rintro⟨w2,hw2,hb2⟩
         clear hne
         have hx2:=(Ext.refl hwx).step hb2 hw2
         have hr0:=cZ5.ext hx2
         have hr1:=cZ6.ext hx2
         have dn4:=hxx.trans hx2
         have hcz:=hr1.cell hz
         have hfz:=hr1.fz j
         have er8:=dN0 _ hw2
         go_wp2_with fail
         go_region
         all_goals
          go_wp2_with fail
          go_roundw
          case rel=>exact⟨k+1,acc.set j _,_,some y.e,y.e,by omega,by go_num,rfl,rfl,.inr ⟨rfl,by omega⟩,by omega,hfin _ (by rw[hstep.out];simp),((dn4.drew.setCell (a:=⟨ob,j,none⟩) hr1.base hr1.free _).back E5 hlex),(hr0.drew.other (a:=⟨ob,j,none⟩) (Ne.symm hne) _).snap Y4.free,(hr1.drew.set j _).snap af4.free⟩
          case measure=>simp[intOf];omega
      ·have bd3:=congrArg (fun s=>s.1) hst.out
       simp only at bd3
       rw[aq1 (xs:=l) (k:=k) (by omega)]at bd3
       replace bd3:=fe6 bd3
       go_wp2_with fail
       go_roundw
       case rel=>exact⟨m+1,acc,by omega,by go_num,by show acc=_;rw[bd3.out,ci7 hml,←bi2.out,hmc.aw2];rfl,E5,Y4,af4⟩
       case measure=>simp[intOf];omega
    ·have hl5:cl3.length=5:=by rw[bi2.out,aE5];rfl
     match cl3,hl5,bi2,af4 with
     |[a0,a1,a2,a3,a4],_,bi2,af4=>
      have dn5:Hid ([a0,a1,a2,a3,a4]=aV5 h plan):=by
       show _=_
       rw[bi2.out,aq1 (xs:=plan) (k:=m) (by omega)];rfl
      clear bi2
      have c0:=af4.cell (i:=0) (x:=a0) rfl
      have c1:=af4.cell (i:=1) (x:=a1) rfl
      have c2:=af4.cell (i:=2) (x:=a2) rfl
      have c3:=af4.cell (i:=3) (x:=a3) rfl
      have c4:=af4.cell (i:=4) (x:=a4) rfl
      have d0:=Y4.cell (i:=0) (x:=0) rfl
      have d1:=Y4.cell (i:=1) (x:=0) rfl
      have d2:=Y4.cell (i:=2) (x:=0) rfl
      have d3:=Y4.cell (i:=3) (x:=0) rfl
      have d4:=Y4.cell (i:=4) (x:=0) rfl
      have f0:=Y4.fz 0
      have f1:=Y4.fz 1
      have f2:=Y4.fz 2
      have f3:=Y4.fz 3
      have f4:=Y4.fz 4
      go_wp2_with fail
      have hr:=((((Y4.set 0 a0).set 1 a1).set 2 a2).set 3 a3).set 4 a4
      refine bodyPost_ret (results_cell_row rfl _ _ rb 171 _ (0,0) _ rfl hr.at_ Tryz.underlying171 rfl (by kernel_rfl)) rfl ?_
      refine⟨?_, ?_⟩
      ·rw[←dn5.out];rfl
      ·exact(((((E5.setCell (a:=⟨rb,0,none⟩) Y4.base Y4.free _).setCell (a:=⟨rb,1,none⟩) Y4.base Y4.free _).setCell (a:=⟨rb,2,none⟩) Y4.base Y4.free _).setCell (a:=⟨rb,3,none⟩) Y4.base Y4.free _).setCell (a:=⟨rb,4,none⟩) Y4.base Y4.free _).below
end
section
open Go.RowKit
attribute [local go_sem] j4.drew j4.alloc j4.drewN WB.holds
def U9 (h:A9) (ts:List Int):Nat→List Int
 |0=>[0,0,0,0]
 |k+1=>(U9 h ts k).set (X9 h (k:Nat)).t.toNat (max ((U9 h ts k).getD (X9 h (k:Nat)).t.toNat 0) (if ts.getD k 0= -1 then 1048576 else ts.getD k 0))
def aP0 (h:A9) (ts:List Int):List Int:=U9 h ts h.bs.length
theorem az9 (h:A9) (ts:List Int):∀k,(U9 h ts k).length=4
 |0=>rfl
 |k+1=>by simp only[U9,List.length_set];exact az9 h ts k
theorem aM4 {l:List Int} {lo hi:Int} (h0:lo≤0∧0≤hi) (h:∀x∈l,lo≤x∧x≤hi) (i:Nat):lo≤l.getD i 0∧l.getD i 0≤hi:=by
 by_cases hi':i<l.length
 ·rw[ff3,fg0 hi'];exact h _ (List.getElem_mem hi')
 ·rw[ff3,List.getElem?_eq_none (by omega)];exact h0
theorem aS7 {h:A9} {ts:List Int} (ht:∀x∈ts,-1≤x∧x≤1000):∀k,∀x∈U9 h ts k,0≤x∧x≤1048576
 |0,x,hx=>by simp[U9]at hx;omega
 |k+1,x,hx=>by
  have ih:=aS7 (h:=h) ht k
  simp only[U9]at hx
  rcases List.mem_or_eq_of_mem_set hx with hx|rfl
  ·exact ih x hx
  ·have h1:=aM4 (lo:=0) (hi:=1048576) (by omega) ih (X9 h (k:Nat)).t.toNat
   have h2:=aM4 (lo:= -1) (hi:=1000) (by omega) ht k
   split<;>omega
theorem Row.new {H:j5} {base g:Nat} {w:World} {t:TypeId} {xs:List Int} (hw:j4 H w) (hb:base≤w.heap.size) (hg:g=w.heap.size):Row H base (w.alloc (.cells (xs.map (Value.int .i64)).toArray t)) t g xs:=by
 subst hg
 exact⟨heap_alloc_new _ _,hb,hw.D6 (fh0 _)⟩
theorem cy1 (vm vb vt:Value) (h:A9) (ts:List Int) (H:j5) (w:World) (hw:j4 H w) (hh:Hou H vm vb vt h) (hv:Valid h) (hts:ts.length=5) (htb:∀x∈ts,-1≤x∧x≤1000):
 Calls Tryz.prog 101 #[U2 vm vb vt h,arr ts] w (I1 w (arr (aP0 h ts))):=by
 obtain⟨ab,cb,rfl,hb1,hb2⟩:=hh.b.form
 have hb5:=hv.b5
 have ht4:=hv.t4
 match ts,hts,htb with
 |[t0,t1,t2,t3,t4],_,htb=>
 obtain⟨ts,hts⟩:∃ts,Hid (ts=[t0,t1,t2,t3,t4]):=⟨_,rfl⟩
 have hpost:Hid (I1 w (arr (aP0 h [t0,t1,t2,t3,t4]))=I1 w (arr (aP0 h ts))):=by show _=_;rw[hts.out]
 rw[hpost.out]
 rw[←hts.out]at htb
 show Calls Tryz.prog 101 #[U2 _ _ _ h,.agg #[.int .i64 t0,.int .i64 t1,.int .i64 t2,.int .i64 t3,.int .i64 t4]] w (I1 w (arr (aP0 h ts)))
 go_enter Tryz.func101,Tryz.ntmps101
 go_upto_region 2 with(refine af8 rfl _ rfl (Ext.refl hw) ?_;intro B w1 H1 hle hx hB hBw;obtain⟨hc0,hc1,hc2,hc3⟩:=R6 hB;clear hB hw;have hw1:=hx.holds)
 have hsz1:=hx.below.size
 have aG3:Row H1 w.heap.size (((w1.alloc (.cells #[.int .i64 t0,.int .i64 t1,.int .i64 t2,.int .i64 t3,.int .i64 t4] 171)).alloc (.cells #[.int .i64 0,.int .i64 0,.int .i64 0,.int .i64 0] 124)).alloc (.cells #[.int .i64 0,.int .i64 0,.int .i64 0,.int .i64 0] 124)) 171 w1.heap.size ts:=by
  rw[hts.out];exact((Row.new (xs:=[t0,t1,t2,t3,t4]) hw1 hsz1 rfl).alloc _).alloc _
 have ai6:Row H1 w.heap.size (((w1.alloc (.cells #[.int .i64 t0,.int .i64 t1,.int .i64 t2,.int .i64 t3,.int .i64 t4] 171)).alloc (.cells #[.int .i64 0,.int .i64 0,.int .i64 0,.int .i64 0] 124)).alloc (.cells #[.int .i64 0,.int .i64 0,.int .i64 0,.int .i64 0] 124)) 124 (w1.heap.size+1) [0,0,0,0]:=
  (Row.new (xs:=[0,0,0,0]) (hw1.alloc _) (by simp;omega) (by simp)).alloc _
 have ar1:Row H1 w.heap.size (((w1.alloc (.cells #[.int .i64 t0,.int .i64 t1,.int .i64 t2,.int .i64 t3,.int .i64 t4] 171)).alloc (.cells #[.int .i64 0,.int .i64 0,.int .i64 0,.int .i64 0] 124)).alloc (.cells #[.int .i64 0,.int .i64 0,.int .i64 0,.int .i64 0] 124)) 124 (w1.heap.size+1+1) [0,0,0,0]:=
  Row.new (xs:=[0,0,0,0]) ((hw1.alloc _).alloc _) (by simp;omega) (by simp)
 have hxz:=((hx.alloc (.cells #[.int .i64 t0,.int .i64 t1,.int .i64 t2,.int .i64 t3,.int .i64 t4] 171)).alloc (.cells #[.int .i64 0,.int .i64 0,.int .i64 0,.int .i64 0] 124)).alloc (.cells #[.int .i64 0,.int .i64 0,.int .i64 0,.int .i64 0] 124)
 have hn1:w1.heap.size≠w1.heap.size+1+1:=by omega
 have hn2:w1.heap.size+1≠w1.heap.size+1+1:=by omega
 have hn3:w1.heap.size≠w1.heap.size+1:=by omega
 generalize((w1.alloc (.cells #[.int .i64 t0,.int .i64 t1,.int .i64 t2,.int .i64 t3,.int .i64 t4] 171)).alloc (.cells #[.int .i64 0,.int .i64 0,.int .i64 0,.int .i64 0] 124)).alloc (.cells #[.int .i64 0,.int .i64 0,.int .i64 0,.int .i64 0] 124)=wz at*
 generalize w1.heap.size+1+1=ob at*
 generalize w1.heap.size+1=rb at*
 generalize w1.heap.size=tb at*
 have hbm:=hh.b.mono hle
 have htl:Hid (ts.length=5):=by show _=_;rw[hts.out];rfl
 clear hx hw1 hle hsz1
 have hwz:=hxz.holds
 go_wp2_with fail
 go_loopw [6,7,11] (fun _ _ i wr=>∃(k:Nat) (acc tt:List Int),k≤h.bs.length∧i= .int .i64 k∧Hid (acc=U9 h ts k)∧Hid (tt.length=5∧∀i,k≤i→tt.getD i 0=ts.getD i 0)∧Ext w H wr H1∧Row H1 w.heap.size wr 171 tb tt∧Row H1 w.heap.size wr 124 rb [0,0,0,0]∧Row H1 w.heap.size wr 124 ob acc) (fun _ _ i _=>h.bs.length-(intOf i).toNat)
 case atStart=>exact⟨0,_,ts,fh3 _,rfl,rfl,⟨htl.out,fun _ _=>rfl⟩,hxz,aG3,ai6,ar1⟩
 case round=>
  clear hxz hwz aG3 ai6 ar1
  obtain⟨k,acc,tt,hk,rfl,hacc,htt,E5,aG3,ai6,ar1⟩:=hrel
  have hwr:=E5.holds
  by_cases hlk:k<h.bs.length
  ·obtain⟨y,hyk⟩:=At.mk hlk
   obtain⟨bb,ob',cb',he,⟨hy1,hy2,hy3⟩,hct,dM8,hce⟩:=hbm.X9 hyk
   cases he
   have hyb:=List.all_eq_true.1 hv.bs y hyk.mem
   simp only[al7,fh9,within_iff]at hyb
   obtain⟨⟨⟨dN1,er9⟩,_⟩,_⟩:=hyb
   obtain⟨j,hyj⟩:=Int.eq_ofNat_of_zero_le dN1
   have hj4:j<4:=by omega
   replace hyj:=fe6 hyj
   clear dN1 er9
   obtain⟨x,hxk⟩:=At.mk (xs:=tt) (k:=k) (by rw[htt.out.1];omega)
   obtain⟨z,hzj⟩:=At.mk (xs:=acc) (k:=j) (by rw[hacc.out,az9];exact hj4)
   have dN2:Hid (x=ts.getD k 0):=by show _=_;rw[←htt.out.2 k (fh0 _),hxk.getD]
   have hxb: -1≤x∧x≤1000:=by rw[dN2.out];exact aM4 (by omega) htb k
   have hzb:0≤z∧z≤1048576:=aS7 htb k z (by rw[←hacc.out];exact hzj.mem)
   have hsucc:∀v,v=max z (if x= -1 then 1048576 else x)→Hid (acc.set j v=U9 h ts (k+1)):=fun v hv=>by
    show _=_
    simp only[U9]
    rw[hyk.X9,hyj.out,fh8,←hacc.out,hzj.getD,←dN2.out,hv]
   go_upto_region 5 with fail
   have dy2:Row H1 w.heap.size (wr.alloc (.cells #[.int .i64 y.t,.int .i64 y.h,.int .i64 y.e] 127)) 127 wr.heap.size [y.t,y.h,y.e]:=Row.new (xs:=[y.t,y.h,y.e]) hwr E5.below.size rfl
   replace E5:=E5.alloc (.cells #[.int .i64 y.t,.int .i64 y.h,.int .i64 y.e] 127)
   have es3:=aG3.lt
   have es4:=ar1.lt
   replace aG3:=aG3.alloc (.cells #[.int .i64 y.t,.int .i64 y.h,.int .i64 y.e] 127)
   replace ai6:=ai6.alloc (.cells #[.int .i64 y.t,.int .i64 y.h,.int .i64 y.e] 127)
   replace ar1:=ar1.alloc (.cells #[.int .i64 y.t,.int .i64 y.h,.int .i64 y.e] 127)
   have hnX:tb≠wr.heap.size:=by omega
   have eS6:ob≠wr.heap.size:=by omega
   clear hwr es3 es4
   generalize wr.alloc (.cells #[.int .i64 y.t,.int .i64 y.h,.int .i64 y.e] 127)=wx at*
   generalize wr.heap.size=cx at*
   have hcX:=dy2.cell (i:=0) (x:=y.t) rfl
   rw[hyj.out]at hcX
   have hcT:=aG3.cell hxk
   have hfT:=aG3.fz k
   have hcO:=ar1.cell hzj
   have hfO:=ar1.fz j
   by_cases hx1:x= -1
   ·subst hx1
    go_upto_region 7 with fail
    have dN3:=dy2.other (a:=⟨tb,k,none⟩) hnX (.int .i64 1048576)
    have bt2:=ar1.other (a:=⟨tb,k,none⟩) hn1 (.int .i64 1048576)
    have dN4:=ai6.other (a:=⟨tb,k,none⟩) hn3 (.int .i64 1048576)
    have cZ8:=aG3.set k 1048576
    have es5:=E5.setCell (a:=⟨tb,k,none⟩) aG3.base aG3.free (.int .i64 1048576)
    have hdX:=dN3.cell (i:=0) (x:=y.t) rfl
    rw[hyj.out]at hdX
    have D9:=cZ8.cell (i:=k) (x:=1048576) (by show _=_;rw[List.getElem?_set_self hxk.lt])
    have hdO:=bt2.cell hzj
    have hgO:=bt2.fz j
    generalize wx.setCell ⟨tb,k,none⟩ (.int .i64 1048576)=wy at*
    go_region
    all_goals
     go_wp2_with fail
     go_roundw
     case rel=>exact⟨k+1,acc.set j _,tt.set k 1048576,by omega,by go_num,(hsucc _ (by rw[if_pos rfl];split<;>omega)).out,⟨by rw[List.length_set];exact htt.out.1,fun i hi=>by rw[ff3,List.getElem?_set_ne (by omega),←ff3];exact htt.out.2 i (by omega)⟩,(es5.setCell (a:=⟨ob,j,none⟩) bt2.base bt2.free _).drew,(cZ8.other (a:=⟨ob,j,none⟩) (Ne.symm hn1) _).drew,(dN4.other (a:=⟨ob,j,none⟩) (Ne.symm hn2) _).drew,(bt2.set j _).drew⟩
     case measure=>simp[intOf];omega
   ·have hx2:(x== -1)=false:=by simpa using hx1
    replace hx1:=fe6 hx1
    go_upto_region 7 with fail
    go_region
    all_goals
     go_wp2_with fail
     go_roundw
     case rel=>exact⟨k+1,acc.set j _,tt,by omega,by go_num,(hsucc _ (by rw[if_neg hx1.out];split<;>omega)).out,⟨htt.out.1,fun i hi=>htt.out.2 i (by omega)⟩,(E5.setCell (a:=⟨ob,j,none⟩) ar1.base ar1.free _).drew,(aG3.other (a:=⟨ob,j,none⟩) (Ne.symm hn1) _).drew,(ai6.other (a:=⟨ob,j,none⟩) (Ne.symm hn2) _).drew,(ar1.set j _).drew⟩
     case measure=>simp[intOf];omega
  ·have hl4:acc.length=4:=by rw[hacc.out,az9]
   match acc,hl4,hacc,ar1 with
   |[a0,a1,a2,a3],_,hacc,ar1=>
    have dn5:Hid ([a0,a1,a2,a3]=aP0 h ts):=by
     show _=_
     rw[hacc.out,show k=h.bs.length by omega];rfl
    clear hacc
    have c0:=ar1.cell (i:=0) (x:=a0) rfl
    have c1:=ar1.cell (i:=1) (x:=a1) rfl
    have c2:=ar1.cell (i:=2) (x:=a2) rfl
    have c3:=ar1.cell (i:=3) (x:=a3) rfl
    have d0:=ai6.cell (i:=0) (x:=0) rfl
    have d1:=ai6.cell (i:=1) (x:=0) rfl
    have d2:=ai6.cell (i:=2) (x:=0) rfl
    have d3:=ai6.cell (i:=3) (x:=0) rfl
    have f0:=ai6.fz 0
    have f1:=ai6.fz 1
    have f2:=ai6.fz 2
    have f3:=ai6.fz 3
    go_wp2_with fail
    have hr:=(((ai6.set 0 a0).set 1 a1).set 2 a2).set 3 a3
    refine bodyPost_ret (results_cell_row rfl _ _ rb 124 _ (0,0) _ rfl hr.at_ Tryz.underlying124 rfl (by kernel_rfl)) rfl ?_
    refine⟨?_, ?_⟩
    ·rw[←dn5.out];rfl
    ·exact((((E5.setCell (a:=⟨rb,0,none⟩) ai6.base ai6.free _).setCell (a:=⟨rb,1,none⟩) ai6.base ai6.free _).setCell (a:=⟨rb,2,none⟩) ai6.base ai6.free _).setCell (a:=⟨rb,3,none⟩) ai6.base ai6.free _).below
end
section
theorem dn6 (h:A9) (i:Nat):X9 h (i:Nat)=h.bs.getD i default:=rfl
theorem ch1 {h:A9} (hv:Valid h) {i:Nat} (hi:i<h.bs.length):0≤(X9 h (i:Nat)).t∧(X9 h (i:Nat)).t<h.ts.length:=by
 obtain⟨y,hy⟩:=At.mk hi
 have:=List.all_eq_true.1 hv.bs y hy.mem
 simp only[al7,fh9,within_iff]at this
 rw[hy.X9];omega
theorem aJ7 {h:A9} (hv:Valid h) (t:Nat):0≤h.ts.getD t 0∧h.ts.getD t 0≤99:=
 aM4 (by omega) (fun x hx=>by have:=List.all_eq_true.1 hv.ts x hx;exact within_iff.1 this) t
theorem cM1 (a b c:Int) (hb: -1≤b) (hc:c≤99) (hc0:0≤c):decide (c<max a (if b= -1 then 1048576 else b))=(decide (c<a) || (decide (b<0) || decide (c<b))):=by
 rw[Bool.eq_iff_iff]
 simp only[decide_eq_true_eq,Bool.or_eq_true]
 split<;>omega
theorem bt3 {h:A9} (hv:Valid h) {ts:List Int} (hts:∀x∈ts,-1≤x∧x≤1000) {t:Nat} (ht:t<4):∀k,k≤h.bs.length→decide (h.ts.getD t 0<(U9 h ts k).getD t 0)=aJ3 h ts t k
 |0,_=>by
  have h1:=aJ7 hv t
  have h2:(U9 h ts 0).getD t 0=0:=by
   simp only[U9]
   match t,ht with
   |0,_=>rfl
   |1,_=>rfl
   |2,_=>rfl
   |3,_=>rfl
  rw[h2,decide_eq_false (by omega)]
  simp[aJ3]
 |k+1,hk=>by
  have ih:=bt3 hv hts ht k (by omega)
  have hb:=ch1 hv (i:=k) (by omega)
  have h1:=aJ7 hv t
  have h2:=aM4 (lo:= -1) (hi:=1000) (by omega) hts k
  have hl:aJ3 h ts t (k+1)=(aJ3 h ts t k || (((X9 h (k:Nat)).t==(t:Int))&&(decide (ts.getD k 0<0) || decide (h.ts.getD t 0<ts.getD k 0)))):=by
   unfold aJ3
   rw[List.range_succ,List.any_append]
   simp[dn6]
  rw[hl,←ih]
  have hlen:=az9 h ts k
  have hval:(U9 h ts (k+1)).getD t 0=if(X9 h (k:Nat)).t=(t:Int)then max ((U9 h ts k).getD t 0) (if ts.getD k 0= -1 then 1048576 else ts.getD k 0)else(U9 h ts k).getD t 0:=by
   simp only[U9]
   by_cases e:(X9 h (k:Nat)).t=(t:Int)
   ·rw[if_pos e,e,fh8,ff3,List.getElem?_set_self (by omega)];rfl
   ·rw[if_neg e,ff3,List.getElem?_set_ne (by omega),←ff3]
  rw[hval]
  by_cases e:(X9 h (k:Nat)).t=(t:Int)
  ·have e2:((X9 h (k:Nat)).t==(t:Int))=true:=by simpa using e
   rw[if_pos e,e2,Bool.true_and]
   exact cM1 _ _ _ h2.1 h1.2 h1.1
  ·have e2:((X9 h (k:Nat)).t==(t:Int))=false:=by simpa using e
   rw[if_neg e,e2,Bool.false_and,Bool.or_false]
theorem cl4 {h:A9} {a b:List Int} {t k:Nat} (e:∀i,i<k→a.getD i 0=b.getD i 0):aJ3 h a t k=aJ3 h b t k:=by
 unfold aJ3
 rw[Bool.eq_iff_iff,List.any_eq_true,List.any_eq_true]
 constructor
 ·rintro⟨i,hi,hx⟩
  exact⟨i,hi,by rw[←e i (List.mem_range.1 hi)];exact hx⟩
 ·rintro⟨i,hi,hx⟩
  exact⟨i,hi,by rw[e i (List.mem_range.1 hi)];exact hx⟩
def M3 (h:A9) (p:List (List Int)):List Int:=aP0 h (aV5 h p)
theorem bz6 {h:A9} (hv:Valid h) {p:List (List Int)} (hp:aa8 h p=true):∀x∈aV5 h p,-1≤x∧x≤1000:=by
 rw[bT7 hv.b5 hp]
 intro x hx
 rcases List.mem_append.1 hx with hx|hx
 ·exact cK6 hv hp x hx
 ·rw[List.eq_of_mem_replicate hx];omega
theorem ah2 (h:A9) (p:List (List Int)):(M3 h p).length=4:=az9 _ _ _
theorem aB5 {h:A9} (hv:Valid h) {p:List (List Int)} (hp:aa8 h p=true):∀x∈M3 h p,0≤x∧x≤1048576:=aS7 (bz6 hv hp) _
theorem cZ9 {h:A9} (hv:Valid h) {p:List (List Int)} (hp:aa8 h p=true) {i:Nat} (hi:i<h.bs.length):(aV5 h p).getD i 0=(aw3 h p).getD i 0:=by
 rw[bT7 hv.b5 hp,ff3,List.getElem?_append_left (by rw[bC0];exact hi),←ff3]
theorem aZ7 {h:A9} (hv:Valid h) {p:List (List Int)} (hp:aa8 h p=true):aw4 h (M3 h p) h.ts.length=ad4 h p:=by
 unfold aw4 ad4 aG9
 congr 1
 refine List.filter_congr fun t ht=> ?_
 have:=hv.t4
 have:=List.mem_range.1 ht
 rw[dx7,M3,aP0,bt3 hv (bz6 hv hp) (by omega) _ (fh0 _)]
 exact cl4 fun i hi=>cZ9 hv hp hi
theorem cM2 {l:List Int} (hl:∀x∈l,0≤x∧x≤3) (hs:l.Pairwise (·<·)):af3 (ub l)=l:=by
 have h1:∀x∈l,(0:Int)≤x:=fun x hx=>(hl x hx).1
 unfold af3 aJ6
 have e:(List.range 4).filter (fun i=>(ub l).testBit i)=(List.range 4).filter (fun i:Nat=>decide ((i:Int)∈l)):=List.filter_congr fun i _=>aI2 h1 i
 rw[e]
 have hnd:(((List.range 4).filter (fun i:Nat=>decide ((i:Int)∈l))).map Int.ofNat).Pairwise (·<·):=by
  rw[List.pairwise_map]
  refine List.Pairwise.imp ?_ ((List.pairwise_lt_range (n:=4)).filter _)
  intro a b hab
  exact Int.ofNat_lt.2 hab
 have hmem:∀x,x∈((List.range 4).filter (fun i:Nat=>decide ((i:Int)∈l))).map Int.ofNat↔x∈l:=by
  intro x
  simp only[List.mem_map,List.mem_filter,List.mem_range,decide_eq_true_eq]
  constructor
  ·rintro⟨i,⟨_,hi⟩,rfl⟩;exact hi
  ·intro hx
   have:=hl x hx
   exact⟨x.toNat,⟨by omega,by rw[Int.toNat_of_nonneg this.1];exact hx⟩,by simp[Int.toNat_of_nonneg this.1]⟩
 have hperm:(((List.range 4).filter (fun i:Nat=>decide ((i:Int)∈l))).map Int.ofNat).Perm l:=by
  refine(List.perm_ext_iff_of_nodup ?_ ?_).2 hmem
  ·exact hnd.imp (fun h=>by omega)
  ·exact hs.imp (fun h=>by omega)
 exact hperm.eq_of_pairwise (fun a b _ _ h1 h2=>by omega) hnd hs
theorem cf4 (h:A9) (r:List Int) (k:Nat):(aw4 h r k).Pairwise (·<·):=by
 unfold aw4
 rw[List.pairwise_map]
 refine List.Pairwise.imp ?_ ((List.pairwise_lt_range (n:=k)).filter _)
 intro a b hab
 exact Int.ofNat_lt.2 hab
end
section
open Go.RowKit
attribute [local go_sem] j4.drew j4.alloc j4.drewN WB.holds
theorem bt4 (vm vb vt:Value) (h:A9) (r:List Int) (H:j5) (w:World) (hw:j4 H w) (hh:Hou H vm vb vt h) (ht4:h.ts.length≤4) (hl:r.length=4) (hr:∀x∈r,0≤x∧x≤1048576):
 Calls Tryz.prog 67 #[U2 vm vb vt h,arr r] w (I1 w (.int .u64 (ub (aw4 h r h.ts.length):Nat))):=by
 match r,hl,hr with
 |[r0,r1,r2,r3],_,hr=>
  have b0:=hr r0 (by simp);have b1:=hr r1 (by simp);have b2:=hr r2 (by simp);have b3:=hr r3 (by simp)
  exact cZ3 vm vb vt h r0 r1 r2 r3 H w hw hh ht4 ⟨by omega,by omega,by omega,by omega⟩
end
section
open Go.RowKit
attribute [local go_sem] j4.drew j4.alloc j4.drewN WB.holds
def am2 (h:A9):Int:=if valid h then(Y7 h (Q3 h (-1)):Nat)else 0
end
section
open Go.RowKit
attribute [local go_sem] j4.drew j4.alloc j4.drewN WB.holds
def bz7 (h:A9) (t:Int):Int:=if valid h&&within t 0 ((h.ts.length:Int)-1)then(if 99-h.ts.getD t.toNat 0<aM2 h t then 3 else 0)else bG8 (valid h) (within t 0 ((h.ts.length:Int)-1))
def bz8 (h:A9) (t:Int):Int:=if valid h&&within t 0 ((h.ts.length:Int)-1)then(if 99-h.ts.getD t.toNat 0<aM2 h t then 0 else aM2 h t)else 0
end
section
open Go.RowKit
attribute [local go_sem] j4.drew j4.alloc j4.drewN WB.holds
def bi3 (h:A9):Int:=if valid h then(if aB1 h<0 then 3 else 0)else 40
def bi4 (h:A9):Int:=if valid h then(if aB1 h<0 then 0 else aB1 h)else 0
end
section
open Go.RowKit
attribute [local go_sem] j4.drew j4.alloc j4.drewN WB.holds
def ch2 (h:A9):List Int:=if valid h then toldOf h else []
def cM3 (h:A9):Bool:=valid h&&decide ((toldOf h).length=0)
end
end Go.Proofs.YtbliehinagkldaaGreatDoor
