/- Lemmas and walks on which the claims of this seat lean (names and blanks made short by a program): OStep Open2 OTwn OLwA OClo OAt OSh1 OSh2 OMore ONum OSplit OLaw0 OLaw1 OLaw2. -/
import Derived.Test.YtbliehinagkldaaGreatDoorG01
import Derived.Test.YtbliehinagkldaaGreatDoorG02
import Derived.Lib.ItoaNum
import Derived.Deep.Slices
import Derived.SizedLaws
import Derived.OpenShut
import Derived.Lib.SmallJoins
import Derived.Deep.Strs
import Derived.Lib.AtoiAll
import Derived.Lib.AtoiTie

set_option linter.all false
set_option maxRecDepth 100000
set_option maxHeartbeats 16000000
open Go.Lib renaming hid → fe6
open List renaming setIfInBounds_toArray → fe7, getElem?_cons_zero → fe8, getElem?_cons_succ → fe9, getElem?_toArray → ff0, set_cons_zero → ff1, set_cons_succ → ff2, getD_eq_getElem?_getD → ff3, length_append → ff4, drop_succ_cons → ff5, drop_zero → ff6, length_singleton → ff7, length_cons → ff8, nil_append → ff9, getElem?_eq_getElem → fg0, length_nil → fg1, cons_append → fg2, push_toArray → fg3, length_map → fg5, length_take → fg6, take_of_length_le → fg7
open Array renaming replicate_zero → fg8, replicate_succ → fg9
open Nat renaming le_refl → fh0, le_trans → fh1, zero_le → fh3, reduceAdd → fh6, reduceSub → fh7
open Bool renaming and_eq_true → fh9
namespace Go.Proofs.YtbliehinagkldaaGreatDoor
section
def G6 (n:Int):ByteArray:=⟨(Lib.itoa n).toArray⟩
def wOk:ByteArray:=⟨#[111,107]⟩
def wNo:ByteArray:=⟨#[110,111]⟩
def dy3:ByteArray:=⟨#[110,111,110,101]⟩
def at0:ByteArray:=⟨#[119,114,111,110,103]⟩
def ai7:ByteArray:=⟨#[119,104,97,116]⟩
def bH2:ByteArray:=⟨#[110,111,116,104,105,110,103]⟩
def ae4 (b:Bool):ByteArray:=if b then wOk else wNo
def at1 (n e:Int):ByteArray:=if e=0 then G6 n else if e=3 then dy3 else at0
def as3 (l:List Int) (e:Int):ByteArray:=if e≠0 then at1 0 e else if l=[]then bH2 else J9 (l.map G6)
def U6 (t:D5) (w:ByteArray) (a:List Int):ByteArray:=
 if w=aZ3 then G6 (if cM3 t.h then 1 else 0)
 else if w=aI3 then at1 (am2 t.h) (aq2 (valid t.h))
 else if w=aZ4 then as3 (ch2 t.h) (aq2 (valid t.h))
 else if w=aZ5 then at1 (bz8 t.h (nth a 0)) (bz7 t.h (nth a 0))
 else if w=aO9 then at1 (bi4 t.h) (bi3 t.h)
 else if w=bs8 then at1 (newR t.s) (aa9 t.s true)
 else if w=aI4 then as3 (az7 t.s) (ax6 (Y5 t.s))
 else if w=aN6 then as3 [az0 t.s (nth a 0),az1 t.s (nth a 0)] (aa9 t.s (as8 t.s (nth a 0)))
 else at1 (aS6 t.s) (aS5 t.s)
def at5 (written:List F7) (n:Int):Bool:=decide (0≤n)&&decide (n<(written.length:Int))&&decide ((written.getD n.toNat E9).kind=1)
def ao6 (now:List F7) (x:F7):List F7:=now.set x.of.toNat (if x.kind=5 then⟨1,0,x.word,x.text,x.nums⟩else E9)
def aP1 (was is:List Bool) (k:Nat):List UInt8:=(List.range k).flatMap fun i=>if is.getD i false=was.getD i false then []else [32]++C8 (G6 (i:Int))++[58]++C8 (ae4 (is.getD i false))
theorem cy2 (was is:List Bool) (k:Nat):aP1 was is (k+1)=aP1 was is k++(if is.getD k false=was.getD k false then []else [32]++C8 (G6 (k:Int))++[58]++C8 (ae4 (is.getD k false))):=by
 unfold aP1;rw[List.range_succ,List.flatMap_append];simp
def dy4 (was is:List Bool):ByteArray:=J8 (C8 wOk++aP1 was is is.length)
def ap9 (t:D5) (written now:List F7) (x:F7):ByteArray:=
 if x.kind=0 then ai7
 else if x.kind=1 then ae4 (changed (Z5 t now) x.word x.nums).2
 else if x.kind=2 then U6 (Z5 t now) x.word x.nums
 else if x.kind=3 then(if 0≤x.of∧x.of≤(now.length:Int)then U6 (Z5 t (now.take x.of.toNat)) x.word x.nums else at0)
 else if x.kind=4 then(if at5 written x.of then(if(now.getD x.of.toNat E9).kind=1 then(now.getD x.of.toNat E9).text else au8)else at0)
 else if at5 written x.of then dy4 (O3 t now) (O3 t (ao6 now x))else wNo
def ak4 (written now:List F7) (x:F7):List F7:=
 if x.kind=1 then now++[x]
 else if(x.kind=5∨x.kind=6)∧at5 written x.of=true then ao6 now x++[E9]
 else now++[E9]
structure dn7 where
 ans:List ByteArray
 written:List F7
 now:List F7
def bz9 (t:D5) (d:dn7) (s:ByteArray):dn7:=⟨d.ans++[ap9 t d.written d.now (A8 s)],d.written++[A8 s],ak4 d.written d.now (A8 s)⟩
def M6 (t:D5) (l:List ByteArray):dn7:=l.foldl (bz9 t) ⟨[],[],[]⟩
theorem aP2 (t:D5) (l:List ByteArray) (s:ByteArray):M6 t (l++[s])=bz9 t (M6 t l) s:=by unfold M6;rw[List.foldl_append];rfl
def bf0 (now:List F7) (h:List Bool) (k:Nat):List ByteArray:=((List.range k).filter fun i=>h.getD i false).map fun i=>(now.getD i E9).text
def bK9 (t:D5) (now:List F7):List ByteArray:=bf0 now (O3 t now) now.length
def aJ8 (t:D5) (l:List ByteArray):Int:=if F6 t then(if 24<l.length then 2 else 0)else 120
def cM4:D5:=⟨⟨[],[],[],0⟩,⟨[],[],[],0⟩⟩
def Y1 (t:D5) (l:List ByteArray):List ByteArray:=if aJ8 t l=0 then(M6 t l).ans else []
def V5 (t:D5) (l:List ByteArray):D5:=if aJ8 t l=0 then Z5 t (M6 t l).now else cM4
def O0 (t:D5) (l:List ByteArray):List ByteArray:=if aJ8 t l=0 then bK9 t (M6 t l).now else []
theorem bC9 (written now:List F7) (x:F7):(ak4 written now x).length=now.length+1:=by
 unfold ak4
 split
 ·simp
 ·split
  ·simp[ao6]
  ·simp
theorem ax9 (t:D5) (l:List ByteArray):(M6 t l).ans.length=l.length∧(M6 t l).written.length=l.length∧(M6 t l).now.length=l.length:=by
 have key:∀r:List ByteArray,(M6 t r.reverse).ans.length=r.length∧(M6 t r.reverse).written.length=r.length∧(M6 t r.reverse).now.length=r.length:=fun r=>by
  induction r with
  |nil=>exact⟨rfl,rfl,rfl⟩
  |cons s r ih=>
   rw[List.reverse_cons,aP2]
   unfold bz9
   simp only[ff4,ff8,fg1,bC9]
   omega
 have:=key l.reverse
 rwa [List.reverse_reverse,List.length_reverse]at this
end
section
open Go.RowKit Go.ChangeShapes Go.WideShapes Go.Deep
def ad6 (w:World):j5:=fun b=>w.heap[b]?
theorem bD0 {α:Type} [Enc α] {H:j5} (L:List Value) (f:Nat→α):∀(n:Nat),(∀i,i<n→∃cs,Enc.rep H (f i) cs∧∀j,j<Enc.sz α→L[i*Enc.sz α+j]? =cs[j]?)→P6 H ((List.range n).map f) (L.take (n*Enc.sz α))
 |0,_=>by simp[P6]
 |n+1,h=>by
  obtain⟨cs,hr,hj⟩:=h n (by omega)
  have hl:=Enc.len hr
  have e:L.take ((n+1)*Enc.sz α)=L.take (n*Enc.sz α)++cs:=by
   rw[Nat.add_mul,Nat.one_mul,List.take_add]
   congr 1
   apply List.ext_getElem?
   intro j
   rw[List.getElem?_take]
   by_cases hjs:j<Enc.sz α
   ·rw[if_pos hjs,List.getElem?_drop]
    exact hj j hjs
   ·rw[if_neg hjs,List.getElem?_eq_none (by omega)]
  rw[List.range_succ,List.map_append,e]
  exact P6.append (bD0 L f n fun i hi=>h i (by omega)) (P6.single hr)
theorem bf1 {H:Type} {P:Program} {e:TypeId}:∀{l:List (DataW H)} {i:Nat} {d:DataW H},l[i]? =some d→∀n∈d.weights P e,n∈DataW.weightsAll P e l
 |d0::l,0,d,h,n,hn=>by
  simp only[fe8,Option.some.injEq]at h
  subst h
  simp only[DataW.weightsAll,List.mem_append]
  exact Or.inl hn
 |d0::l,i+1,d,h,n,hn=>by
  simp only[fe9]at h
  simp only[DataW.weightsAll,List.mem_append]
  exact Or.inr (bf1 h n hn)
 |[],_,_,h,_,_=>by simp at h
theorem cy3 {w:World} {a:Addr} {v:Value} (h:w.cell? a=some v):∃b o cur t fr,a=⟨b,o,none⟩∧w.heap[b]? =some (.cells cur t fr):=by
 obtain⟨b,o,s⟩:=a
 unfold World.cell? at h
 split at h
 ·next c t fr hb=>
  split at h
  ·cases h
  ·next hs=>
   cases s with
   |none=>exact⟨b,o,_,_,_,rfl,hb⟩
   |some _=>simp at hs
 ·cases h
theorem Sl.opened {α:Type} [Enc α] [Inhabited α] {H:Type} {enc:TypeId × Value→H} {P:Program} {w:World} {sp:Nat→Bool} {hd:Bool} {t e:TypeId} {n:Nat} {v:Value} {y:DataW H × List MemPlace}
 (ht:P.underlying t=some (.slice e)) (hc:P.cellsOf e=Enc.sz α) (hp:0<Enc.sz α) (hb:P.bytesOf e=Enc.M4 α)
 (el:∀(n:Nat) (cs:List Value) (y:DataW H × List MemPlace),DataW.trod enc P w 0 sp hd n e cs=some y→(∀k∈y.1.weights P e,k≤reachBytes)→∃x:α,Enc.rep (ad6 w) x cs)
 (h:DataW.trod enc P w 0 sp hd n t [v]=some y) (hw:∀k∈y.1.weights P t,k≤reachBytes):∃xs:List α,Sl (ad6 w) v xs:=by
 rcases open_slice ht h with⟨hcs,_⟩|⟨a,len,cap,m,n',D,Pl,hcs,_,hl,hm,hmm,rfl,hx⟩
 ·simp at hcs
  subst hcs
  exact⟨[],Sl.Y9 _⟩
 ·simp at hcs
  subst hcs
  have hlm:len≤m:=by rw[hmm];split<;>omega
  simp only[DataW.weights,ht,List.mem_cons,List.mem_append]at hw
  have h0:=hw _ (Or.inl rfl)
  simp only[fg5,List.length_range,hb]at h0
  have hby:len*Enc.M4 α≤140737488355328:=by
   have h1:len*Enc.M4 α≤(len+(m-len))*Enc.M4 α:=Nat.mul_le_mul_right _ (by omega)
   have h2:reachBytes≤140737488355328:=by decide
   omega
  have hcap:cap≤9223372036854775807:=by simp only[maxLen]at hm;omega
  by_cases hz:len=0
  ·subst hz
   exact⟨[],Sl.nil _ _ hcap⟩
  ·obtain⟨cs0,hc0,_⟩:=hx 0 (by omega)
   obtain⟨_,hl0,hg0⟩:=World.cells?_some hc0
   have hcell0:=hg0 0 (by omega)
   rw[fg0 (by omega)]at hcell0
   obtain⟨b,o,cur,tt,fr,ha,hrow⟩:=cy3 hcell0
   have ha':a=⟨b,o,none⟩:=by simpa [Addr.add]using ha
   subst ha'
   have hat:∀i,i<len→∃cs,(∃x:α,Enc.rep (ad6 w) x cs)∧cs.length=Enc.sz α∧∀j,j<Enc.sz α→cur[o+i*Enc.sz α+j]? =cs[j]? :=fun i hi=>by
    obtain⟨cs,hc1,ht1⟩:=hx i (by omega)
    obtain⟨_,hl1,hg1⟩:=World.cells?_some hc1
    rw[hc]at hl1 hg1
    refine⟨cs,el _ _ _ ht1 (fun k hk=>hw k (Or.inr (Or.inl (bf1 (i:=i) (by simp[hi]) k hk)))),hl1,fun j hj=> ?_⟩
    have:=hg1 j hj
    rw[Addr.add_lit,Addr.add_lit,cell_of_row w b _ cur tt fr hrow]at this
    exact this
   obtain⟨f,hf⟩:=choose_lt (α:=α) (p:=fun i x=>∃cs,Enc.rep (ad6 w) x cs∧cs.length=Enc.sz α∧∀j,j<Enc.sz α→cur[o+i*Enc.sz α+j]? =cs[j]?) (fun i hi=>by
    obtain⟨cs,⟨x,hx⟩,hl,hj⟩:=hat i hi
    exact⟨x,cs,hx,hl,hj⟩)
   have hsz:o+len*Enc.sz α≤cur.size:=by
    obtain⟨cs,_,hl1,hj1⟩:=hf (len-1) (by omega)
    have h1:=hj1 (Enc.sz α-1) (by omega)
    rw[fg0 (by omega)]at h1
    have h2:=(Array.getElem?_eq_some_iff.1 h1).1
    have h3:(len-1)*Enc.sz α+Enc.sz α=len*Enc.sz α:=by
     rw[show len*Enc.sz α=(len-1+1)*Enc.sz α by rw[Nat.sub_add_cancel (by omega)],Nat.add_mul,Nat.one_mul]
    omega
   refine⟨(List.range len).map f,some ⟨b,o,none⟩,cap,by simp,by simpa using hl,hcap,by simpa using hby,.inr ⟨b,o,cur,tt,fr,rfl,hrow,by simpa using hsz, ?_⟩⟩
   rw[fg5,List.length_range]
   refine bD0 _ f len fun i hi=> ?_
   obtain⟨cs,hr,_,hj⟩:=hf i hi
   refine⟨cs,hr,fun j hjj=> ?_⟩
   rw[List.getElem?_drop,←hj j hjj,Array.getElem?_toList,←Nat.add_assoc]
end
section
open Go.RowKit Go.ChangeShapes Go.WideShapes Go.Deep Go.Joins
section
variable {H:Type} {enc:TypeId × Value→H} {W:World} {sp:Nat→Bool} {hd:Bool}
theorem bt5:Tryz.prog.cellsOf 3=1:=by kernel_rfl
theorem ah7 {n:Int} (h:(Lit.int .i64 n).wf=true):K8 n:=by
 have: -9223372036854775808≤n∧n≤9223372036854775807:=by simpa [Lit.wf,IntKind.min,IntKind.max,IntKind.signed,IntKind.bits]using h
 exact this
theorem dN6 (n:Nat) (cs:List Value) (y:DataW H × List MemPlace) (h:DataW.trod enc Tryz.prog W 0 sp hd n 3 cs=some y):∃x:Int,Enc.rep (ad6 W) x cs:=by
 obtain⟨k,rfl,_,hk⟩:=DataW.trod_int Tryz.underlying3 h
 exact⟨k,rfl,ah7 hk⟩
theorem three {α:Type} {l:List α} (h:l.length=3):∃a b c,l=[a,b,c]:=by
 match l,h with
 |[a,b,c],_=>exact⟨a,b,c,rfl⟩
theorem dG6 (n:Nat) (cs:List Value) (y:DataW H × List MemPlace) (h:DataW.trod enc Tryz.prog W 0 sp hd n 94 cs=some y):∃x:ah4,Enc.rep (ad6 W) x cs:=by
 obtain⟨y0,y1,y2,m,_,hl,h0,h1,h2⟩:=trod_struct3 Tryz.underlying94 h
 obtain⟨a,b,c,rfl⟩:=three (hl.trans (by kernel_rfl))
 simp only[bt5,ff6,ff5,List.take_succ_cons,List.take_zero]at h0 h1 h2
 obtain⟨k0,e0,_,w0⟩:=DataW.trod_int Tryz.underlying3 h0
 obtain⟨k1,e1,_,w1⟩:=DataW.trod_int Tryz.underlying3 h1
 obtain⟨k2,e2,_,w2⟩:=DataW.trod_int Tryz.underlying3 h2
 simp at e0 e1 e2
 subst e0;subst e1;subst e2
 exact⟨⟨k0,k1,k2⟩,show bT2 _ _ from⟨rfl,ah7 w0,ah7 w1,ah7 w2⟩⟩
theorem dG7 (n:Nat) (cs:List Value) (y:DataW H × List MemPlace) (h:DataW.trod enc Tryz.prog W 0 sp hd n 127 cs=some y):∃x:ar8,Enc.rep (ad6 W) x cs:=by
 obtain⟨y0,y1,y2,m,_,hl,h0,h1,h2⟩:=trod_struct3 Tryz.underlying127 h
 obtain⟨a,b,c,rfl⟩:=three (hl.trans (by kernel_rfl))
 simp only[bt5,ff6,ff5,List.take_succ_cons,List.take_zero]at h0 h1 h2
 obtain⟨k0,e0,_,w0⟩:=DataW.trod_int Tryz.underlying3 h0
 obtain⟨k1,e1,_,w1⟩:=DataW.trod_int Tryz.underlying3 h1
 obtain⟨k2,e2,_,w2⟩:=DataW.trod_int Tryz.underlying3 h2
 simp at e0 e1 e2
 subst e0;subst e1;subst e2
 exact⟨⟨k0,k1,k2⟩,show bT3 _ _ from⟨rfl,ah7 w0,ah7 w1,ah7 w2⟩⟩
theorem bd4 {n:Nat} {v:Value} {y:DataW H × List MemPlace} (h:DataW.trod enc Tryz.prog W 0 sp hd n 24 [v]=some y) (hw:∀k∈y.1.weights Tryz.prog 24,k≤reachBytes):∃xs:List Int,Sl (ad6 W) v xs:=
 Sl.opened Tryz.underlying24 (by kernel_rfl) (by decide) (by kernel_rfl) (fun n cs y h _=>dN6 n cs y h) h hw
theorem cl5 {n:Nat} {v:Value} {y:DataW H × List MemPlace} (h:DataW.trod enc Tryz.prog W 0 sp hd n 22 [v]=some y) (hw:∀k∈y.1.weights Tryz.prog 22,k≤reachBytes):∃xs:List ah4,Sl (ad6 W) v xs:=
 Sl.opened Tryz.underlying22 (by kernel_rfl) (by decide) (by kernel_rfl) (fun n cs y h _=>dG6 n cs y h) h hw
theorem cl6 {n:Nat} {v:Value} {y:DataW H × List MemPlace} (h:DataW.trod enc Tryz.prog W 0 sp hd n 23 [v]=some y) (hw:∀k∈y.1.weights Tryz.prog 23,k≤reachBytes):∃xs:List ar8,Sl (ad6 W) v xs:=
 Sl.opened Tryz.underlying23 (by kernel_rfl) (by decide) (by kernel_rfl) (fun n cs y h _=>dG7 n cs y h) h hw
theorem dG8 (n:Nat) (cs:List Value) (y:DataW H × List MemPlace) (h:DataW.trod enc Tryz.prog W 0 sp hd n 24 cs=some y) (hw:∀k∈y.1.weights Tryz.prog 24,k≤reachBytes):∃x:List Int,Enc.rep (ad6 W) x cs:=by
 obtain⟨a,l,c,rfl⟩:=slice_form Tryz.underlying24 h
 obtain⟨xs,hx⟩:=bd4 h hw
 exact⟨xs,_,rfl,hx⟩
theorem cl7 {n:Nat} {v:Value} {y:DataW H × List MemPlace} (h:DataW.trod enc Tryz.prog W 0 sp hd n 28 [v]=some y) (hw:∀k∈y.1.weights Tryz.prog 28,k≤reachBytes):∃xs:List (List Int),Sl (ad6 W) v xs:=
 Sl.opened Tryz.underlying28 (by kernel_rfl) (by decide) (by kernel_rfl) (fun n cs y h hw=>dG8 n cs y h hw) h hw
end
end
section
open Go.RowKit
structure Twn (H:j5) (vm vb vt um uo ua:Value) (t:D5):Prop where
 h:Hou H vm vb vt t.h
 s:Sho H um uo ua t.s
abbrev ah0 (vm vb vt um uo ua:Value) (t:D5):Value:= .agg #[vm,vb,vt,.int .i64 t.h.ch,um,uo,ua,.int .i64 t.s.fr]
theorem Twn.mono {H H':j5} (k:D8 H H') {vm vb vt um uo ua:Value} {t:D5} (x:Twn H vm vb vt um uo ua t):Twn H' vm vb vt um uo ua t:=⟨x.h.mono k,x.s.mono k⟩
theorem I5 {H:j5} {B:Nat} {vm vb vt um uo ua:Value} {t:D5} {T:TypeId} (e:H B=some (.cells (ah0 vm vb vt um uo ua t).cells T (0,0))):
 (∀w,j4 H w→w.cell? ⟨B,0,none⟩=some vm)∧(∀w,j4 H w→w.cell? ⟨B,1,none⟩=some vb)∧(∀w,j4 H w→w.cell? ⟨B,2,none⟩=some vt)∧(∀w,j4 H w→w.cell? ⟨B,3,none⟩=some (.int .i64 t.h.ch))∧
  (∀w,j4 H w→w.cell? ⟨B,4,none⟩=some um)∧(∀w,j4 H w→w.cell? ⟨B,5,none⟩=some uo)∧(∀w,j4 H w→w.cell? ⟨B,6,none⟩=some ua)∧(∀w,j4 H w→w.cell? ⟨B,7,none⟩=some (.int .i64 t.s.fr)):=
 ⟨fun _ hw=>D7 e hw 0,fun _ hw=>D7 e hw 1,fun _ hw=>D7 e hw 2,fun _ hw=>D7 e hw 3,fun _ hw=>D7 e hw 4,fun _ hw=>D7 e hw 5,fun _ hw=>D7 e hw 6,fun _ hw=>D7 e hw 7⟩
def bt6 (H:j5) (v:Value) (t:D5):Prop:=∃vm vb vt um uo ua,v=ah0 vm vb vt um uo ua t∧Twn H vm vb vt um uo ua t
structure aA5 (w0:World) (H0:j5) (O:Nat) (w:World) (H:j5) (vm vb vt um uo ua:Value) (t:D5):Prop where
 c:J4 w0 H0 O 32 w H #[vm,vb,vt,.int .i64 t.h.ch,um,uo,ua,.int .i64 t.s.fr]
 t:Twn H vm vb vt um uo ua t
end
section
open Go.RowKit
attribute [local go_sem] j4.drew j4.alloc j4.drewN WB.holds Oper.semAt_some
theorem aZ8 (r p s:Int) (w:World):
 Calls Tryz.prog 138 #[.int .i64 r,.int .i64 p,.int .i64 s] w (I1 w (.agg #[.int .i64 r,.int .i64 p,.int .i64 s])):=by
 go_enter Tryz.func138,Tryz.ntmps138
 go_wp2
 refine bodyPost_ret (results_cell_row rfl _ _ w.heap.size 96 _ (0,0) _ rfl (heap_alloc_new w _) Tryz.underlying96 rfl (by kernel_rfl)) rfl ?_
 exact⟨rfl,(Below.refl _ _).alloc (fh0 _) _⟩
theorem da0 (um uo ua vm vo va:Value) (s:G5) (H:j5) (w:World) (hw:j4 H w) (ho:Sho H um uo ua s) (hh:Sho H vm vo va s):
 Calls Tryz.prog 55 #[aq3 um uo ua s,aq3 vm vo va s] w (I1 w (.bool true)):=by
 obtain⟨am,cm,rfl,hm1,hm2⟩:=hh.m.form
 obtain⟨ab,cb,rfl,hb1,hb2⟩:=hh.o.form
 obtain⟨at',ct,rfl,ht1,ht2⟩:=hh.a.form
 obtain⟨dm,em,rfl,hm3,hm4⟩:=ho.m.form
 obtain⟨db,eb,rfl,hb3,hb4⟩:=ho.o.form
 obtain⟨dt,et,rfl,ht3,ht4⟩:=ho.a.form
 have hsame:∀(H':j5) (w:World),j4 H' w→D8 H H'→Calls Tryz.prog 86 #[.slice dt s.wa.length et,.slice at' s.wa.length ct] w (I1 w (.bool true)):=fun H' w hw k=>by
  have h:=aV1 _ _ _ _ H' w hw (ho.a.mono k) (hh.a.mono k)
  simpa using h
 replace hsame:=fe6 hsame
 go_enter Tryz.func55,Tryz.ntmps55
 go_wp2_with(first|((have hgd:=hx;refine af8 rfl _ rfl hx ?_;intro C w2 H2 hle2 hx2 hC hCw;obtain⟨hd0,hd1,hd2,hd3⟩:=V6 hC;replace hc0:=lift hle2 hc0;replace hc1:=lift hle2 hc1;replace hc2:=lift hle2 hc2;replace hc3:=lift hle2 hc3;clear hC hx hw1;have hw2:=hx2.holds;have hl2:=hle.trans hle2))|(refine af8 rfl _ rfl (Ext.refl hw) ?_;intro B w1 H1 hle hx hB hBw;obtain⟨hc0,hc1,hc2,hc3⟩:=V6 hB;clear hB hw;have hw1:=hx.holds)|((go_at_call 86;refine(hsame.out H2 _ hw2 hl2).mono ?_;rintro e w3 ⟨rfl,hb3⟩;have hw3:=hw2.below hb3;have hx3:=hx2.step (hb3.mono hx2.below.size) hw3)))
 have hhm:=hh.mono hl2
 have hom:=ho.mono hl2
 clear hh ho hgd hw2 hx2 hb3
 go_loopw [5] (fun i wr=>∃k:Nat,k≤s.mo.length∧i= .int .i64 k∧Ext w H wr H2) (fun i _=>s.mo.length-(intOf i).toNat)
 case atStart=>exact⟨0,fh3 _,rfl,hx3⟩
 case round=>
  clear hx3 hw3
  obtain⟨k,hk,rfl,E5⟩:=hrel
  have hwr:=E5.holds
  by_cases hlk:k<s.mo.length
  ·obtain⟨z,hzk⟩:=At.mk hlk
   obtain⟨bb,ob',cb',hez,⟨hy1,hy2,hy3⟩,q0,q1,q2⟩:=hhm.m.mld hzk
   cases hez
   obtain⟨bo,oo,co,hez,_,p0,p1,p2⟩:=hom.m.mld hzk
   cases hez
   go_upto_region 6 with fail
   refine E8 H2 (by kernel_rfl) (by kernel_rfl) hwr (fun hne=> ?_)
   repeat go_big_quiet_step((first|fail))
   refine wpQuiet_nil ?_
   rintro⟨w2,hw2,hb2⟩
   clear hne
   go_wp2_with fail
   go_roundw
   case rel=>exact⟨k+1,by omega,by go_num,E5.step (hb2.mono E5.below.size) hw2⟩
   case measure=>simp[intOf];omega
  ·go_wp2_with fail
   go_loopw [6] (fun i wr=>∃k:Nat,k≤s.wo.length∧i= .int .i64 k∧Ext w H wr H2) (fun i _=>s.wo.length-(intOf i).toNat)
   case atStart=>exact⟨0,fh3 _,rfl,E5⟩
   case round=>
    clear E5 hwr
    obtain⟨k,hk,rfl,E5⟩:=hrel
    have hwr:=E5.holds
    by_cases hlk:k<s.wo.length
    ·obtain⟨z,hzk⟩:=At.mk hlk
     obtain⟨bb,ob',cb',u,hez,hi,q0⟩:=hhm.o.list hzk
     cases hez
     obtain⟨bo,oo,co,v,hez,hj,p0⟩:=hom.o.list hzk
     cases hez
     have hss:∀w,j4 H2 w→Calls Tryz.prog 86 #[v,u] w (I1 w (.bool true)):=fun w hw=>by simpa using aV1 _ _ _ _ H2 w hw hj hi
     replace hss:=fe6 hss
     go_upto_region 11 with fail
     refine E8 H2 (by kernel_rfl) (by kernel_rfl) hwr (fun hne=> ?_)
     repeat go_big_quiet_step((first|(go_at_call 86;exact Calls.am7 (hss.out _ (WB.holds _)))))
     refine wpQuiet_nil ?_
     rintro⟨w2,hw2,hb2⟩
     clear hne
     go_wp2_with fail
     go_roundw
     case rel=>exact⟨k+1,by omega,by go_num,E5.step (hb2.mono E5.below.size) hw2⟩
     case measure=>simp[intOf];omega
    ·go_wp2_with fail
     go_ret
     exact⟨rfl,E5.below⟩
def bA0 (s:G5):Bool:=decide (40<s.mo.length) || (decide (40<s.wo.length) || (decide (40<s.wa.length) || s.wo.any fun x=>decide (40<x.length)))
theorem da1 (vm vo va:Value) (s:G5) (H:j5) (w:World) (hw:j4 H w) (hh:Sho H vm vo va s):
 Calls Tryz.prog 85 #[aq3 vm vo va s] w (I1 w (.bool (bA0 s))):=by
 obtain⟨am,cm,rfl,hm1,hm2⟩:=hh.m.form
 obtain⟨ab,cb,rfl,hb1,hb2⟩:=hh.o.form
 obtain⟨at',ct,rfl,ht1,ht2⟩:=hh.a.form
 have key:Hid (bA0 s=(decide (40<(s.mo.length:Int)) || (decide (40<(s.wo.length:Int)) || (decide (40<(s.wa.length:Int)) || s.wo.any fun x=>decide (40<x.length))))):=by
  show _=_
  unfold bA0
  congr 1
  ·exact decide_eq_decide.2 (by omega)
  ·congr 1
   ·exact decide_eq_decide.2 (by omega)
   ·congr 1
    exact decide_eq_decide.2 (by omega)
 cases g1:decide (40<(s.mo.length:Int))
 ·cases g2:decide (40<(s.wo.length:Int))
  ·cases g3:decide (40<(s.wa.length:Int))
   ·rw[g1,g2,g3]at key
    go_enter Tryz.func85,Tryz.ntmps85
    go_wp2_with(first|(refine af8 rfl _ rfl (Ext.refl hw) ?_;intro B w1 H1 hle hx hB hBw;obtain⟨hc0,hc1,hc2,hc3⟩:=V6 hB;clear hB hw;have hw1:=hx.holds))
    have hom:=hh.o.mono hle
    clear hh g1 g2 g3
    go_loopw [3] (fun i wr=>∃k:Nat,k≤s.wo.length∧i= .int .i64 k∧Hid ((s.wo.take k).any (fun x=>decide (40<x.length))=false)∧Ext w H wr H1) (fun i _=>s.wo.length-(intOf i).toNat)
    case atStart=>exact⟨0,fh3 _,rfl,rfl,hx⟩
    case round=>
     clear hx hw1
     obtain⟨k,hk,rfl,hok,E5⟩:=hrel
     have hwr:=E5.holds
     by_cases hlk:k<s.wo.length
     ·obtain⟨z,hzk⟩:=At.mk hlk
      obtain⟨bo,oo,co,v,hez,hj,p0⟩:=hom.list hzk
      cases hez
      obtain⟨a1,c1,rfl,_,_⟩:=hj.form
      have hsp:=hzk.take
      replace hsp:=fe6 hsp
      by_cases hz:(40:Int)<z.length
      ·go_wp2_with fail
       go_ret
       exact⟨M0 (by
        rw[key.out]
        show true=_
        have:s.wo.any (fun x=>decide (40<x.length))=true:=List.any_eq_true.2 ⟨z,hzk.mem,by simp;omega⟩
        rw[this];rfl),E5.below⟩
      ·go_wp2_with fail
       go_roundw
       case rel=>exact⟨k+1,by omega,by go_num,fe6 (by rw[hsp.out,List.any_append,hok.out];simp;omega),E5⟩
       case measure=>simp[intOf];omega
     ·go_wp2_with fail
      go_ret
      exact⟨M0 (by
       rw[key.out]
       have h:=hok.out
       rw[fg7 (by omega)]at h
       rw[h];rfl),E5.below⟩
   ·rw[g1,g2,g3]at key
    go_enter Tryz.func85,Tryz.ntmps85
    go_wp2_with(first|(refine af8 rfl _ rfl (Ext.refl hw) ?_;intro B w1 H1 hle hx hB hBw;obtain⟨hc0,hc1,hc2,hc3⟩:=V6 hB;clear hB hw;have hw1:=hx.holds))
    go_ret
    exact⟨M0 (by rw[key.out];rfl),hx.below⟩
  ·rw[g1,g2]at key
   go_enter Tryz.func85,Tryz.ntmps85
   go_wp2_with(first|(refine af8 rfl _ rfl (Ext.refl hw) ?_;intro B w1 H1 hle hx hB hBw;obtain⟨hc0,hc1,hc2,hc3⟩:=V6 hB;clear hB hw;have hw1:=hx.holds))
   go_ret
   exact⟨M0 (by rw[key.out];rfl),hx.below⟩
 ·rw[g1]at key
  go_enter Tryz.func85,Tryz.ntmps85
  go_wp2_with(first|(refine af8 rfl _ rfl (Ext.refl hw) ?_;intro B w1 H1 hle hx hB hBw;obtain⟨hc0,hc1,hc2,hc3⟩:=V6 hB;clear hB hw;have hw1:=hx.holds))
  go_ret
  exact⟨M0 (by rw[key.out];rfl),hx.below⟩
end
section
open Go.RowKit
attribute [local go_sem] j4.drew j4.alloc j4.drewN WB.holds Oper.semAt_some
theorem aN8 (v:Value) (l:List Int) (hl:l.length≤1000000) (H:j5) (w:World) (hw:j4 H w) (hs:Sl H v l):
 Calls Tryz.prog 96 #[v] w (bh8 w H 3 l):=by
 have hs0:=hs
 have heq:∀(w:World) (a:Option Addr) (n c n' c':Nat),_:=fun w a n c n' c'=>Go.Lib.run_eql_slice_nil (P:=Tryz.prog) w 24 3 a n c n' c' Tryz.underlying24
 obtain⟨a,c,rfl,_,_,_,hor⟩:=hs0
 cases a with
 |none=>
  have he:l=[]:=by
   rcases hor with h|⟨_,_,_,_,_,h,_⟩
   ·exact h
   ·cases h
  subst he
  clear hor
  go_enter Tryz.func96,Tryz.ntmps96
  go_wp2
  go_ret
  exact⟨_,H,rfl,Ext.refl hw,Own.nil _ _ _ _⟩
 |some ad=>
  clear hor
  go_enter Tryz.func96,Tryz.ntmps96
  go_wp2_with(first|((refine aj2 (w0:=w) (H0:=H) ag8 rfl _ _ rfl ((Ext.refl hw).alloc _) rfl (Own.emptyAt (heap_alloc_new _ _) (fh0 _) (hw.D6 (fh0 _))) rfl hs (by simp[Enc.M4];omega) (by simp;omega) ?_;intro vB wB ao5 hxB hwB hgB;rw[ff9]at ao5)))
  go_ret
  exact⟨vB,H,rfl,hxB,ao5⟩
theorem bD1 (v:Value) (l:List ah4) (hl:l.length≤1000000) (H:j5) (w:World) (hw:j4 H w) (hs:Sl H v l):
 Calls Tryz.prog 127 #[v] w (bh8 w H 94 l):=by
 have hs0:=hs
 have heq:∀(w:World) (a:Option Addr) (n c n' c':Nat),_:=fun w a n c n' c'=>Go.Lib.run_eql_slice_nil (P:=Tryz.prog) w 22 94 a n c n' c' Tryz.underlying22
 obtain⟨a,c,rfl,_,_,_,hor⟩:=hs0
 cases a with
 |none=>
  have he:l=[]:=by
   rcases hor with h|⟨_,_,_,_,_,h,_⟩
   ·exact h
   ·cases h
  subst he
  clear hor
  go_enter Tryz.func127,Tryz.ntmps127
  go_wp2
  go_ret
  exact⟨_,H,rfl,Ext.refl hw,Own.nil _ _ _ _⟩
 |some ad=>
  clear hor
  go_enter Tryz.func127,Tryz.ntmps127
  go_wp2_with(first|((refine aj2 (w0:=w) (H0:=H) aY9 rfl _ _ rfl ((Ext.refl hw).alloc _) rfl (Own.emptyAt (heap_alloc_new _ _) (fh0 _) (hw.D6 (fh0 _))) rfl hs (by simp[Enc.M4];omega) (by simp;omega) ?_;intro vB wB ao5 hxB hwB hgB;rw[ff9]at ao5)))
  go_ret
  exact⟨vB,H,rfl,hxB,ao5⟩
theorem cy4 (v:Value) (l:List ar8) (hl:l.length≤1000000) (H:j5) (w:World) (hw:j4 H w) (hs:Sl H v l):
 Calls Tryz.prog 128 #[v] w (bh8 w H 127 l):=by
 have hs0:=hs
 have heq:∀(w:World) (a:Option Addr) (n c n' c':Nat),_:=fun w a n c n' c'=>Go.Lib.run_eql_slice_nil (P:=Tryz.prog) w 23 127 a n c n' c' Tryz.underlying23
 obtain⟨a,c,rfl,_,_,_,hor⟩:=hs0
 cases a with
 |none=>
  have he:l=[]:=by
   rcases hor with h|⟨_,_,_,_,_,h,_⟩
   ·exact h
   ·cases h
  subst he
  clear hor
  go_enter Tryz.func128,Tryz.ntmps128
  go_wp2
  go_ret
  exact⟨_,H,rfl,Ext.refl hw,Own.nil _ _ _ _⟩
 |some ad=>
  clear hor
  go_enter Tryz.func128,Tryz.ntmps128
  go_wp2_with(first|((refine aj2 (w0:=w) (H0:=H) aZ0 rfl _ _ rfl ((Ext.refl hw).alloc _) rfl (Own.emptyAt (heap_alloc_new _ _) (fh0 _) (hw.D6 (fh0 _))) rfl hs (by simp[Enc.M4];omega) (by simp;omega) ?_;intro vB wB ao5 hxB hwB hgB;rw[ff9]at ao5)))
  go_ret
  exact⟨vB,H,rfl,hxB,ao5⟩
theorem bD2 (v:Value) (l:List Mld) (hl:l.length≤1000000) (H:j5) (w:World) (hw:j4 H w) (hs:Sl H v l):
 Calls Tryz.prog 129 #[v] w (bh8 w H 96 l):=by
 have hs0:=hs
 have heq:∀(w:World) (a:Option Addr) (n c n' c':Nat),_:=fun w a n c n' c'=>Go.Lib.run_eql_slice_nil (P:=Tryz.prog) w 27 96 a n c n' c' Tryz.underlying27
 obtain⟨a,c,rfl,_,_,_,hor⟩:=hs0
 cases a with
 |none=>
  have he:l=[]:=by
   rcases hor with h|⟨_,_,_,_,_,h,_⟩
   ·exact h
   ·cases h
  subst he
  clear hor
  go_enter Tryz.func129,Tryz.ntmps129
  go_wp2
  go_ret
  exact⟨_,H,rfl,Ext.refl hw,Own.nil _ _ _ _⟩
 |some ad=>
  clear hor
  go_enter Tryz.func129,Tryz.ntmps129
  go_wp2_with(first|((refine aj2 (w0:=w) (H0:=H) aQ1 rfl _ _ rfl ((Ext.refl hw).alloc _) rfl (Own.emptyAt (heap_alloc_new _ _) (fh0 _) (hw.D6 (fh0 _))) rfl hs (by simp[Enc.M4];omega) (by simp;omega) ?_;intro vB wB ao5 hxB hwB hgB;rw[ff9]at ao5)))
  go_ret
  exact⟨vB,H,rfl,hxB,ao5⟩
theorem cy5 (v:Value) (l:List (List Int)) (hl:l.length≤1000000) (H:j5) (w:World) (hw:j4 H w) (hs:Sl H v l):
 Calls Tryz.prog 130 #[v] w (bh8 w H 24 l):=by
 have hs0:=hs
 have heq:∀(w:World) (a:Option Addr) (n c n' c':Nat),_:=fun w a n c n' c'=>Go.Lib.run_eql_slice_nil (P:=Tryz.prog) w 28 24 a n c n' c' Tryz.underlying28
 obtain⟨a,c,rfl,_,_,_,hor⟩:=hs0
 cases a with
 |none=>
  have he:l=[]:=by
   rcases hor with h|⟨_,_,_,_,_,h,_⟩
   ·exact h
   ·cases h
  subst he
  clear hor
  go_enter Tryz.func130,Tryz.ntmps130
  go_wp2
  go_ret
  exact⟨_,H,rfl,Ext.refl hw,Own.nil _ _ _ _⟩
 |some ad=>
  clear hor
  go_enter Tryz.func130,Tryz.ntmps130
  go_wp2_with(first|((refine aj2 (w0:=w) (H0:=H) eList rfl _ _ rfl ((Ext.refl hw).alloc _) rfl (Own.emptyAt (heap_alloc_new _ _) (fh0 _) (hw.D6 (fh0 _))) rfl hs (by simp[Enc.M4];omega) (by simp;omega) ?_;intro vB wB ao5 hxB hwB hgB;rw[ff9]at ao5)))
  go_ret
  exact⟨vB,H,rfl,hxB,ao5⟩
end
section
open Go.RowKit
attribute [local go_sem] j4.drew j4.alloc j4.drewN WB.holds Oper.semAt_some
def cl8 {α:Type} [Enc α] (w0 w:World) (H0 H:j5) (O k:Nat) (T eT:TypeId) (cur:Array Value) (xs:List α) (p:Nat) (e:Ending) (w':World):Prop:=
 ∃g c H',e= .returned (.tuple #[.pointer (some ⟨g,p,none⟩),.bool true])∧J4 w0 H0 O T w' H' (cur.setIfInBounds k (.slice (some ⟨g,0,none⟩) xs.length c))∧D8 H H'∧Own H' w.heap.size w' eT (.slice (some ⟨g,0,none⟩) xs.length c) xs
theorem da2 {w:World} {O k:Nat} {v:Value} {H:j5} {xs:List Int} (hc:w.cell? ⟨O,k,none⟩=some v) (hs:Sl H v xs) (i:Int) (hi:inL xs i=false):
 Calls Tryz.prog 157 #[.pointer (some ⟨O,k,none⟩),.int .i64 i] w (I1 w (.tuple #[.pointer none,.bool false])):=by
 obtain⟨a,c,rfl,hc1,hc2⟩:=hs.form
 have h:i<0∨(¬i<0∧(xs.length:Int)≤i):=by
  unfold inL at hi
  by_cases h0:i<0
  ·exact .inl h0
  ·right
   refine⟨h0, ?_⟩
   rw[decide_eq_true (by omega),Bool.true_and]at hi
   have:=of_decide_eq_false hi
   omega
 clear hi
 rcases h with h|⟨h,h2⟩
 ·go_enter Tryz.func157,Tryz.ntmps157
  go_wp2
  go_ret2
  exact⟨rfl,Below.refl _ _⟩
 ·go_enter Tryz.func157,Tryz.ntmps157
  go_wp2
  go_ret2
  exact⟨rfl,Below.refl _ _⟩
theorem cF2 {w0 w:World} {H0 H:j5} {O k:Nat} {T:TypeId} {cur:Array Value} (hc:J4 w0 H0 O T w H cur) {v:Value} {xs:List Int} (hv:cur[k]? =some v) (hs:Sl H v xs) (hl:xs.length≤1000000) (i:Nat) (hi:i<xs.length):
 Calls Tryz.prog 157 #[.pointer (some ⟨O,k,none⟩),.int .i64 (i:Int)] w (cl8 w0 w H0 H O k T 3 cur xs i):=by
 obtain⟨a,c,rfl,hc1,hc2⟩:=hs.form
 have hcl:=aN8 _ xs hl H w hc.x.holds hs
 have h0:=(hc.cell k).trans hv
 have hi0:¬(i:Int)<0:=by omega
 have hi1:¬(xs.length:Int)≤(i:Int):=by omega
 have hi2:(0:Int)≤(i:Int):=by omega
 have hi3:(i:Int)<(xs.length:Int):=by omega
 replace hcl:=fe6 hcl
 go_enter Tryz.func157,Tryz.ntmps157
 go_upto_region 4 with(go_at_call 96;go_must (refine hcl.out.mono ?_);rintro e w2 ⟨v2,H2,rfl,x2,o2⟩;obtain⟨a2,cg,rfl,_,_⟩:=o2.form;have c2:=hc.ext x2;have g0:=(c2.cell k).trans hv;have g1:=c2.fz k)
 obtain⟨x,hx⟩:=At.mk hi
 obtain⟨g,rfl⟩:=o2.addr rfl (Nat.lt_of_le_of_lt (fh3 _) hi)
 have hlt:=hc.lt
 obtain⟨_,_,hg2,_⟩:=o2.as9 hx
 have le2:=fe6 (x2.le hc.x.holds)
 have o3:=o2.setCell (a:=⟨O,k,none⟩) (fun h=>by simp[Value.ownBlock]at h;omega) (.slice (some ⟨g,0,none⟩) xs.length cg)
 have c3:=c2.set k (.slice (some ⟨g,0,none⟩) xs.length cg)
 replace o3:=fe6 o3
 replace c3:=fe6 c3
 clear o2 x2 hx
 go_wp2
 go_ret2
 exact⟨g,cg,H2,rfl,c3.out,le2.out,o3.out⟩
theorem dN7 {w:World} {O k:Nat} {v:Value} {H:j5} {xs:List ah4} (hc:w.cell? ⟨O,k,none⟩=some v) (hs:Sl H v xs) (i:Int) (hi:inL xs i=false):
 Calls Tryz.prog 153 #[.pointer (some ⟨O,k,none⟩),.int .i64 i] w (I1 w (.tuple #[.pointer none,.bool false])):=by
 obtain⟨a,c,rfl,hc1,hc2⟩:=hs.form
 have h:i<0∨(¬i<0∧(xs.length:Int)≤i):=by
  unfold inL at hi
  by_cases h0:i<0
  ·exact .inl h0
  ·right
   refine⟨h0, ?_⟩
   rw[decide_eq_true (by omega),Bool.true_and]at hi
   have:=of_decide_eq_false hi
   omega
 clear hi
 rcases h with h|⟨h,h2⟩
 ·go_enter Tryz.func153,Tryz.ntmps153
  go_wp2
  go_ret2
  exact⟨rfl,Below.refl _ _⟩
 ·go_enter Tryz.func153,Tryz.ntmps153
  go_wp2
  go_ret2
  exact⟨rfl,Below.refl _ _⟩
theorem dG9 {w0 w:World} {H0 H:j5} {O k:Nat} {T:TypeId} {cur:Array Value} (hc:J4 w0 H0 O T w H cur) {v:Value} {xs:List ah4} (hv:cur[k]? =some v) (hs:Sl H v xs) (hl:xs.length≤1000000) (i:Nat) (hi:i<xs.length):
 Calls Tryz.prog 153 #[.pointer (some ⟨O,k,none⟩),.int .i64 (i:Int)] w (cl8 w0 w H0 H O k T 94 cur xs (i*3)):=by
 obtain⟨a,c,rfl,hc1,hc2⟩:=hs.form
 have hcl:=bD1 _ xs hl H w hc.x.holds hs
 have h0:=(hc.cell k).trans hv
 have hi0:¬(i:Int)<0:=by omega
 have hi1:¬(xs.length:Int)≤(i:Int):=by omega
 have hi2:(0:Int)≤(i:Int):=by omega
 have hi3:(i:Int)<(xs.length:Int):=by omega
 replace hcl:=fe6 hcl
 go_enter Tryz.func153,Tryz.ntmps153
 go_upto_region 4 with(go_at_call 127;go_must (refine hcl.out.mono ?_);rintro e w2 ⟨v2,H2,rfl,x2,o2⟩;obtain⟨a2,cg,rfl,_,_⟩:=o2.form;have c2:=hc.ext x2;have g0:=(c2.cell k).trans hv;have g1:=c2.fz k)
 obtain⟨x,hx⟩:=At.mk hi
 obtain⟨g,rfl⟩:=o2.addr rfl (Nat.lt_of_le_of_lt (fh3 _) hi)
 have hlt:=hc.lt
 obtain⟨_,_,hg2,_⟩:=o2.as9 hx
 have le2:=fe6 (x2.le hc.x.holds)
 have o3:=o2.setCell (a:=⟨O,k,none⟩) (fun h=>by simp[Value.ownBlock]at h;omega) (.slice (some ⟨g,0,none⟩) xs.length cg)
 have c3:=c2.set k (.slice (some ⟨g,0,none⟩) xs.length cg)
 replace o3:=fe6 o3
 replace c3:=fe6 c3
 clear o2 x2 hx
 go_wp2
 go_ret2
 exact⟨g,cg,H2,rfl,c3.out,le2.out,o3.out⟩
theorem da3 {w:World} {O k:Nat} {v:Value} {H:j5} {xs:List Mld} (hc:w.cell? ⟨O,k,none⟩=some v) (hs:Sl H v xs) (i:Int) (hi:inL xs i=false):
 Calls Tryz.prog 162 #[.pointer (some ⟨O,k,none⟩),.int .i64 i] w (I1 w (.tuple #[.pointer none,.bool false])):=by
 obtain⟨a,c,rfl,hc1,hc2⟩:=hs.form
 have h:i<0∨(¬i<0∧(xs.length:Int)≤i):=by
  unfold inL at hi
  by_cases h0:i<0
  ·exact .inl h0
  ·right
   refine⟨h0, ?_⟩
   rw[decide_eq_true (by omega),Bool.true_and]at hi
   have:=of_decide_eq_false hi
   omega
 clear hi
 rcases h with h|⟨h,h2⟩
 ·go_enter Tryz.func162,Tryz.ntmps162
  go_wp2
  go_ret2
  exact⟨rfl,Below.refl _ _⟩
 ·go_enter Tryz.func162,Tryz.ntmps162
  go_wp2
  go_ret2
  exact⟨rfl,Below.refl _ _⟩
theorem cF3 {w0 w:World} {H0 H:j5} {O k:Nat} {T:TypeId} {cur:Array Value} (hc:J4 w0 H0 O T w H cur) {v:Value} {xs:List Mld} (hv:cur[k]? =some v) (hs:Sl H v xs) (hl:xs.length≤1000000) (i:Nat) (hi:i<xs.length):
 Calls Tryz.prog 162 #[.pointer (some ⟨O,k,none⟩),.int .i64 (i:Int)] w (cl8 w0 w H0 H O k T 96 cur xs (i*3)):=by
 obtain⟨a,c,rfl,hc1,hc2⟩:=hs.form
 have hcl:=bD2 _ xs hl H w hc.x.holds hs
 have h0:=(hc.cell k).trans hv
 have hi0:¬(i:Int)<0:=by omega
 have hi1:¬(xs.length:Int)≤(i:Int):=by omega
 have hi2:(0:Int)≤(i:Int):=by omega
 have hi3:(i:Int)<(xs.length:Int):=by omega
 replace hcl:=fe6 hcl
 go_enter Tryz.func162,Tryz.ntmps162
 go_upto_region 4 with(go_at_call 129;go_must (refine hcl.out.mono ?_);rintro e w2 ⟨v2,H2,rfl,x2,o2⟩;obtain⟨a2,cg,rfl,_,_⟩:=o2.form;have c2:=hc.ext x2;have g0:=(c2.cell k).trans hv;have g1:=c2.fz k)
 obtain⟨x,hx⟩:=At.mk hi
 obtain⟨g,rfl⟩:=o2.addr rfl (Nat.lt_of_le_of_lt (fh3 _) hi)
 have hlt:=hc.lt
 obtain⟨_,_,hg2,_⟩:=o2.as9 hx
 have le2:=fe6 (x2.le hc.x.holds)
 have o3:=o2.setCell (a:=⟨O,k,none⟩) (fun h=>by simp[Value.ownBlock]at h;omega) (.slice (some ⟨g,0,none⟩) xs.length cg)
 have c3:=c2.set k (.slice (some ⟨g,0,none⟩) xs.length cg)
 replace o3:=fe6 o3
 replace c3:=fe6 c3
 clear o2 x2 hx
 go_wp2
 go_ret2
 exact⟨g,cg,H2,rfl,c3.out,le2.out,o3.out⟩
end
section
open Go.RowKit
attribute [local go_sem] j4.drew j4.alloc j4.drewN WB.holds Oper.semAt_some
theorem au9 (n lo hi:Int) (w:World):
 Calls Tryz.prog 59 #[.int .i64 n,.int .i64 lo,.int .i64 hi] w fun e w'=>e= .returned (.bool (within n lo hi))∧w=w':=by
 go_enter Tryz.func59,Tryz.ntmps59
 go_wp2
 all_goals
  go_ret
  simp[within]
 all_goals (intros;omega)
theorem bD3 (n:Int) (w:World):
 Calls Tryz.prog 104 #[.int .i64 n] w fun e w'=>e= .returned (.bool (!within n 0 12))∧w=w':=by
 go_enter Tryz.func104,Tryz.ntmps104
 go_wp2_with(first|(go_at_call 59;refine(au9 _ _ _ _).mono ?_;rintro e w' ⟨rfl,rfl⟩))
 go_ret
 exact⟨rfl,rfl⟩
theorem cy6 (va:Value) (xs:List Int) (H:j5) (w:World) (hw:j4 H w) (ha:Sl H va xs):
 Calls Tryz.prog 139 #[va,.func (.func 104) #[] #[]] w (bT4 w (xs.any fun n=> !within n 0 12) xs.length):=by
 obtain⟨aa,ca,rfl,ha1,ha2⟩:=ha.form
 go_enter Tryz.func139,Tryz.ntmps139
 go_wp2
 go_loopw [5,8] (fun _ i wr=>∃k:Nat,k≤xs.length∧i= .int .i64 k∧Hid ((xs.take k).any (fun n=> !within n 0 12)=false)∧w=wr) (fun _ i _=>xs.length-(intOf i).toNat)
 case atStart=>exact⟨0,fh3 _,rfl,rfl,rfl⟩
 case round=>
  obtain⟨k,hk,rfl,hok,rfl⟩:=hrel
  by_cases hlk:k<xs.length
  ·obtain⟨x,hxk⟩:=At.mk hlk
   obtain⟨b,o,cc,he,hi,hr⟩:=ha.int hxk
   cases he
   cases g:(!within x 0 12)
   all_goals have g':=fe6 g
   ·go_wp2_with(first|(go_at_call 104;refine(bD3 _ _).mono ?_;rintro e w' ⟨rfl,rfl⟩))
    go_roundw
    case rel=>exact⟨k+1,by omega,by go_num,by show _=_;rw[hxk.take,List.any_append,hok.out];simp only[List.any_cons,List.any_nil,g'.out];rfl,by first|rfl|trivial⟩
    case measure=>simp[intOf];omega
   ·go_wp2_with(first|(go_at_call 104;refine(bD3 _ _).mono ?_;rintro e w' ⟨rfl,rfl⟩))
    go_ret
    exact⟨k,rfl,rfl,by symm;rw[decide_eq_true (by omega),List.any_eq_true];exact⟨x,hxk.mem,g'.out⟩,by omega,by omega⟩
  ·go_wp2_with fail
   go_ret
   have h1:=hok.out
   rw[aq1 (xs:=xs) (k:=k) (by omega)]at h1
   exact⟨-1,rfl,rfl,by rw[h1];rfl,by omega,by omega⟩
theorem bT8 (va:Value) (xs:List Int) (H:j5) (w:World) (hw:j4 H w) (ha:Sl H va xs):
 Calls Tryz.prog 89 #[va,.func (.func 104) #[] #[]] w fun e w'=>e= .returned (.bool (xs.any fun n=> !within n 0 12))∧w=w':=by
 go_enter Tryz.func89,Tryz.ntmps89
 go_wp2_with(first|(go_at_call 139;refine(cy6 _ _ _ _ hw ha).mono ?_;rintro e w' ⟨r,rfl,rfl,hr1,hr2,hr3⟩))
 go_ret
 exact⟨M0 (by rw[←hr1]),rfl⟩
theorem bD4 (n:Int) (w:World):
 Calls Tryz.prog 106 #[.int .i64 n] w fun e w'=>e= .returned (.bool (!within n 0 12))∧w=w':=by
 go_enter Tryz.func106,Tryz.ntmps106
 go_wp2_with(first|(go_at_call 59;refine(au9 _ _ _ _).mono ?_;rintro e w' ⟨rfl,rfl⟩))
 go_ret
 exact⟨rfl,rfl⟩
theorem cy7 (va:Value) (xs:List Int) (H:j5) (w:World) (hw:j4 H w) (ha:Sl H va xs):
 Calls Tryz.prog 139 #[va,.func (.func 106) #[] #[]] w (bT4 w (xs.any fun n=> !within n 0 12) xs.length):=by
 obtain⟨aa,ca,rfl,ha1,ha2⟩:=ha.form
 go_enter Tryz.func139,Tryz.ntmps139
 go_wp2
 go_loopw [5,8] (fun _ i wr=>∃k:Nat,k≤xs.length∧i= .int .i64 k∧Hid ((xs.take k).any (fun n=> !within n 0 12)=false)∧w=wr) (fun _ i _=>xs.length-(intOf i).toNat)
 case atStart=>exact⟨0,fh3 _,rfl,rfl,rfl⟩
 case round=>
  obtain⟨k,hk,rfl,hok,rfl⟩:=hrel
  by_cases hlk:k<xs.length
  ·obtain⟨x,hxk⟩:=At.mk hlk
   obtain⟨b,o,cc,he,hi,hr⟩:=ha.int hxk
   cases he
   cases g:(!within x 0 12)
   all_goals have g':=fe6 g
   ·go_wp2_with(first|(go_at_call 106;refine(bD4 _ _).mono ?_;rintro e w' ⟨rfl,rfl⟩))
    go_roundw
    case rel=>exact⟨k+1,by omega,by go_num,by show _=_;rw[hxk.take,List.any_append,hok.out];simp only[List.any_cons,List.any_nil,g'.out];rfl,by first|rfl|trivial⟩
    case measure=>simp[intOf];omega
   ·go_wp2_with(first|(go_at_call 106;refine(bD4 _ _).mono ?_;rintro e w' ⟨rfl,rfl⟩))
    go_ret
    exact⟨k,rfl,rfl,by symm;rw[decide_eq_true (by omega),List.any_eq_true];exact⟨x,hxk.mem,g'.out⟩,by omega,by omega⟩
  ·go_wp2_with fail
   go_ret
   have h1:=hok.out
   rw[aq1 (xs:=xs) (k:=k) (by omega)]at h1
   exact⟨-1,rfl,rfl,by rw[h1];rfl,by omega,by omega⟩
theorem bT9 (va:Value) (xs:List Int) (H:j5) (w:World) (hw:j4 H w) (ha:Sl H va xs):
 Calls Tryz.prog 89 #[va,.func (.func 106) #[] #[]] w fun e w'=>e= .returned (.bool (xs.any fun n=> !within n 0 12))∧w=w':=by
 go_enter Tryz.func89,Tryz.ntmps89
 go_wp2_with(first|(go_at_call 139;refine(cy7 _ _ _ _ hw ha).mono ?_;rintro e w' ⟨r,rfl,rfl,hr1,hr2,hr3⟩))
 go_ret
 exact⟨M0 (by rw[←hr1]),rfl⟩
theorem aF0 {α:Type} (p:α→Bool) (l:List α):(l.any fun x=> !p x)= !l.all p:=by
 induction l with
 |nil=>rfl
 |cons x l ih=>rw[List.any_cons,List.all_cons,ih];cases p x<;>rfl
theorem bD5 (vm vo va vw:Value) (s:G5) (x:List Int) (B:Nat) (H:j5) (w:World) (hw:j4 H w) (hs:Sho H vm vo va s) (hx:Sl H vw x) (hc0:∀w,j4 H w→w.cell? ⟨B,0,none⟩=some vm):
 Calls Tryz.prog 103 #[vw,.pointer (some ⟨B,0,none⟩)] w fun e w'=>e= .returned (.bool (!ai5 s.mo.length x))∧w=w':=by
 have hx0:=hx
 obtain⟨aw,cw,rfl,_,_⟩:=hx.form
 obtain⟨am,cm,rfl,_,_⟩:=hs.m.form
 have key:(!ai5 s.mo.length x)=(!decide (x.length=s.mo.length) || (x.any fun n=> !within n 0 12)):=by unfold ai5;rw[aF0];cases decide (x.length=s.mo.length)<;>rfl
 rw[key]
 by_cases h:x.length=s.mo.length
 ·have ht:((x.length:Int) != (s.mo.length:Int))=false:=by rw[bne_eq_false_iff_eq];omega
  rw[decide_eq_true h]
  have hcx:=bT8 _ x H w hw hx0
  replace hcx:=fe6 hcx
  clear h key
  go_enter Tryz.func103,Tryz.ntmps103
  go_wp2_with(first|((go_at_call 89;refine hcx.out.mono ?_;rintro e w' ⟨rfl,rfl⟩)))
  go_ret
  exact⟨M0 (by simp),rfl⟩
 ·have ht:((x.length:Int) != (s.mo.length:Int))=true:=by rw[bne_iff_ne];omega
  rw[decide_eq_false h]
  clear h key
  go_enter Tryz.func103,Tryz.ntmps103
  go_wp2
  go_ret
  exact⟨M0 (by simp),rfl⟩
theorem bD6 (vm vo va:Value) (s:G5) (m:Mld) (B:Nat) (H:j5) (w:World) (hw:j4 H w) (hs:Sho H vm vo va s) (hc2:∀w,j4 H w→w.cell? ⟨B,2,none⟩=some va):
 Calls Tryz.prog 105 #[.agg #[.int .i64 m.pg,.int .i64 m.us,.int .i64 m.br],.pointer (some ⟨B,0,none⟩)] w (I1 w (.bool (!am5 s.wa.length m))):=by
 obtain⟨aa,ca,rfl,ha1,ha2⟩:=hs.a.form
 have key:Hid ((!am5 s.wa.length m)=(!within m.pg 0 ((s.wa.length:Int)-1) || (!within m.us 0 12 || !within m.br 0 1))):=by
  show _=_
  unfold am5
  cases within m.pg 0 ((s.wa.length:Int)-1)<;>cases within m.us 0 12<;>rfl
 cases g1:within m.pg 0 ((s.wa.length:Int)-1)
 all_goals cases g2:within m.us 0 12
 all_goals cases g3:within m.br 0 1
 all_goals
  rw[g1,g2,g3]at key
  go_enter Tryz.func105,Tryz.ntmps105
  go_wp2_with(first|(go_at_call 59;refine(au9 _ _ _ _).mono ?_;rintro e w' ⟨rfl,rfl⟩))
  go_ret
  exact⟨M0 (by rw[key.out];rfl),(Below.refl _ _).alloc (fh0 _) _⟩
theorem cy8 (vm vo vv va:Value) (s:G5) (xs:List Mld) (B:Nat) (H:j5) (w:World) (hw:j4 H w) (ha:Sl H va xs) (hs:Sho H vm vo vv s) (hc2:∀w,j4 H w→w.cell? ⟨B,2,none⟩=some vv):
 Calls Tryz.prog 145 #[va,.func (.func 105) #[] #[.pointer (some ⟨B,0,none⟩)]] w (bh9 w (xs.any fun m=> !am5 s.wa.length m) xs.length):=by
 obtain⟨aa,ca,rfl,ha1,ha2⟩:=ha.form
 go_enter Tryz.func145,Tryz.ntmps145
 go_wp2
 go_loopw [5,8] (fun _ i wr=>∃k:Nat,k≤xs.length∧i= .int .i64 k∧Hid ((xs.take k).any (fun m=> !am5 s.wa.length m)=false)∧Ext w H wr H) (fun _ i _=>xs.length-(intOf i).toNat)
 case atStart=>exact⟨0,fh3 _,rfl,rfl,Ext.refl hw⟩
 case round=>
  obtain⟨k,hk,rfl,hok,E5⟩:=hrel
  have hwr:=E5.holds
  by_cases hlk:k<xs.length
  ·obtain⟨x,hxk⟩:=At.mk hlk
   obtain⟨b,o,cc,he,⟨hi1,hi2,hi3⟩,hr1,hr2,hr3⟩:=ha.mld hxk
   cases he
   cases g:(!am5 s.wa.length x)
   all_goals have g':=fe6 g
   ·go_wp2_with(first|((go_at_call 105;refine(bD6 _ _ _ s x B H _ hwr hs hc2).mono ?_;rintro e w' ⟨rfl,hb2⟩)))
    go_roundw
    case rel=>exact⟨k+1,by omega,by go_num,by show _=_;rw[hxk.take,List.any_append,hok.out];simp only[List.any_cons,List.any_nil,g'.out];rfl,E5.step (hb2.mono E5.below.size) (hwr.below hb2)⟩
    case measure=>simp[intOf];omega
   ·go_wp2_with(first|((go_at_call 105;refine(bD6 _ _ _ s x B H _ hwr hs hc2).mono ?_;rintro e w' ⟨rfl,hb2⟩)))
    go_ret
    exact⟨k,rfl,(E5.step (hb2.mono E5.below.size) (hwr.below hb2)).below,by symm;rw[decide_eq_true (by omega),List.any_eq_true];exact⟨x,hxk.mem,g'.out⟩,by omega,by omega⟩
  ·go_wp2_with fail
   go_ret
   have h1:=hok.out
   rw[aq1 (xs:=xs) (k:=k) (by omega)]at h1
   exact⟨-1,rfl,E5.below,by rw[h1];rfl,by omega,by omega⟩
theorem bU0 (vm vo vv va:Value) (s:G5) (xs:List Mld) (B:Nat) (H:j5) (w:World) (hw:j4 H w) (ha:Sl H va xs) (hs:Sho H vm vo vv s) (hc2:∀w,j4 H w→w.cell? ⟨B,2,none⟩=some vv):
 Calls Tryz.prog 107 #[va,.func (.func 105) #[] #[.pointer (some ⟨B,0,none⟩)]] w (I1 w (.bool (xs.any fun m=> !am5 s.wa.length m))):=by
 go_enter Tryz.func107,Tryz.ntmps107
 go_wp2_with(first|(go_at_call 145;refine(cy8 _ _ _ _ s _ _ _ _ hw ha hs hc2).mono ?_;rintro e w' ⟨r,rfl,hb2,hr1,hr2,hr3⟩))
 go_ret
 exact⟨M0 (by rw[←hr1]),hb2⟩
theorem cy9 (vm vo vv va:Value) (s:G5) (xs:List (List Int)) (B:Nat) (H:j5) (w:World) (hw:j4 H w) (ha:Sl H va xs) (hs:Sho H vm vo vv s) (hc0:∀w,j4 H w→w.cell? ⟨B,0,none⟩=some vm):
 Calls Tryz.prog 146 #[va,.func (.func 103) #[] #[.pointer (some ⟨B,0,none⟩)]] w (bh9 w (xs.any fun m=> !ai5 s.mo.length m) xs.length):=by
 obtain⟨aa,ca,rfl,ha1,ha2⟩:=ha.form
 go_enter Tryz.func146,Tryz.ntmps146
 go_wp2
 go_loopw [5,8] (fun _ i wr=>∃k:Nat,k≤xs.length∧i= .int .i64 k∧Hid ((xs.take k).any (fun m=> !ai5 s.mo.length m)=false)∧Ext w H wr H) (fun _ i _=>xs.length-(intOf i).toNat)
 case atStart=>exact⟨0,fh3 _,rfl,rfl,Ext.refl hw⟩
 case round=>
  obtain⟨k,hk,rfl,hok,E5⟩:=hrel
  have hwr:=E5.holds
  by_cases hlk:k<xs.length
  ·obtain⟨x,hxk⟩:=At.mk hlk
   obtain⟨b,o,cc,u,he,hu,hr1⟩:=ha.list hxk
   cases he
   have hu0:=hu
   obtain⟨ua,uc,rfl,_,_⟩:=hu0.form
   cases g:(!ai5 s.mo.length x)
   all_goals have g':=fe6 g
   ·go_wp2_with(first|((go_at_call 103;refine(bD5 _ _ _ _ s x B H _ hwr hs hu hc0).mono ?_;rintro e w' ⟨rfl,rfl⟩;have hb2:Below wr.heap.size wr wr:=Below.refl _ _)))
    go_roundw
    case rel=>exact⟨k+1,by omega,by go_num,by show _=_;rw[hxk.take,List.any_append,hok.out];simp only[List.any_cons,List.any_nil,g'.out];rfl,E5.step (hb2.mono E5.below.size) (hwr.below hb2)⟩
    case measure=>simp[intOf];omega
   ·go_wp2_with(first|((go_at_call 103;refine(bD5 _ _ _ _ s x B H _ hwr hs hu hc0).mono ?_;rintro e w' ⟨rfl,rfl⟩;have hb2:Below wr.heap.size wr wr:=Below.refl _ _)))
    go_ret
    exact⟨k,rfl,(E5.step (hb2.mono E5.below.size) (hwr.below hb2)).below,by symm;rw[decide_eq_true (by omega),List.any_eq_true];exact⟨x,hxk.mem,g'.out⟩,by omega,by omega⟩
  ·go_wp2_with fail
   go_ret
   have h1:=hok.out
   rw[aq1 (xs:=xs) (k:=k) (by omega)]at h1
   exact⟨-1,rfl,E5.below,by rw[h1];rfl,by omega,by omega⟩
theorem bU1 (vm vo vv va:Value) (s:G5) (xs:List (List Int)) (B:Nat) (H:j5) (w:World) (hw:j4 H w) (ha:Sl H va xs) (hs:Sho H vm vo vv s) (hc0:∀w,j4 H w→w.cell? ⟨B,0,none⟩=some vm):
 Calls Tryz.prog 108 #[va,.func (.func 103) #[] #[.pointer (some ⟨B,0,none⟩)]] w (I1 w (.bool (xs.any fun m=> !ai5 s.mo.length m))):=by
 go_enter Tryz.func108,Tryz.ntmps108
 go_wp2_with(first|(go_at_call 146;refine(cy9 _ _ _ _ s _ _ _ _ hw ha hs hc0).mono ?_;rintro e w' ⟨r,rfl,hb2,hr1,hr2,hr3⟩))
 go_ret
 exact⟨M0 (by rw[←hr1]),hb2⟩
end
section
open Go.RowKit
attribute [local go_sem] j4.drew j4.alloc j4.drewN WB.holds Oper.semAt_some
theorem aQ3 {α:Type} {p:α→Bool} {l:List α} (h:(l.any fun x=> !p x)=false):l.all p=true:=by
 rw[aF0]at h
 simpa using h
theorem bi5 (vm vo va:Value) (s:G5) (H:j5) (w:World) (hw:j4 H w) (hs:Sho H vm vo va s):
 Calls Tryz.prog 69 #[aq3 vm vo va s] w (I1 w (.int .i64 (ax6 (Y5 s)))):=by
 obtain⟨am,cm,rfl,hm1,hm2⟩:=hs.m.form
 obtain⟨ao,co,rfl,ho1,ho2⟩:=hs.o.form
 obtain⟨aa,ca,rfl,ha1,ha2⟩:=hs.a.form
 have hmf:∀(fn:Fn) (first cap:Array Value) (w:World),(Instr.makeFunc fn first cap).run Tryz.prog w= .ok (.func fn first cap) w:=fun _ _ _ _=>rfl
 obtain⟨R,hR⟩:∃R,R=ax6 (Y5 s):=⟨_,rfl⟩
 rw[←hR]
 have hbad:¬Y0 s→R=20:=fun h=>by rw[hR];exact cE1 h
 have hgood:Y0 s→R=0:=fun h=>by rw[hR];exact cj3 h
 clear hR
 have hcs:(3:Int)<s.wa.length∨(¬(3:Int)<s.wa.length∧(5:Int)<s.mo.length)∨(¬(3:Int)<s.wa.length∧¬(5:Int)<s.mo.length∧(6:Int)<s.wo.length)∨
  (¬(3:Int)<s.wa.length∧¬(5:Int)<s.mo.length∧¬(6:Int)<s.wo.length∧within s.fr 1 12=false)∨(¬(3:Int)<s.wa.length∧¬(5:Int)<s.mo.length∧¬(6:Int)<s.wo.length∧within s.fr 1 12=true):=by
  cases within s.fr 1 12<;>simp<;>omega
 rcases hcs with g1|⟨g1,g2⟩|⟨g1,g2,g3⟩|⟨g1,g2,g3,g4⟩|⟨g1,g2,g3,g4⟩
 iterate 4
  ·have hRb:=hbad (fun v=>by have h1:=v.w3;have h2:=v.m5;have h3:=v.o6;have h4:=v.fr;first|omega|(rw[h4]at g4;cases g4))
   subst hRb
   clear hbad hgood
   go_enter Tryz.func69,Tryz.ntmps69
   go_wp2_with(first|(refine af8 rfl _ rfl (Ext.refl hw) ?_;intro B w1 H1 hle hx hB hBw;obtain⟨hc0,hc1,hc2,hc3⟩:=V6 hB;clear hB hw;have hw1:=hx.holds)|((go_at_call 59;refine(au9 _ _ _ _).mono ?_;rintro e w' ⟨rfl,rfl⟩)))
   go_ret
   exact⟨rfl,hx.below⟩
 replace hbad:=fe6 hbad
 replace hgood:=fe6 hgood
 go_enter Tryz.func69,Tryz.ntmps69
 go_upto_region 8 with(first|(refine af8 rfl _ rfl (Ext.refl hw) ?_;intro B w1 H1 hle hx hB hBw;obtain⟨hc0,hc1,hc2,hc3⟩:=V6 hB;clear hB hw;have hw1:=hx.holds)|(go_at_call 59;refine(au9 _ _ _ _).mono ?_;rintro e w' ⟨rfl,rfl⟩))
 have hs1:=hs.mono hle
 have cY:=bT9 _ s.wa H1 w1 hw1 hs1.a
 have cM:=bU0 _ _ _ _ s s.mo B H1 w1 hw1 hs1.m hs1 hc2
 have cW:=fun(W:World) (hW:j4 H1 W)=>bU1 _ _ _ _ s s.wo B H1 W hW hs1.o hs1 hc0
 clear hs hle
 cases k1:s.wa.any fun n=> !within n 0 12
 rotate_left
 ·have hRb:=hbad.out (fun v=>by have:=v.wa;rw[aF0,this]at k1;cases k1)
  subst hRb
  rw[k1]at cY
  replace cY:=fe6 cY
  clear hbad hgood k1 cM cW
  go_wp2_with(first|((go_at_call 89;refine cY.out.mono ?_;rintro e w' ⟨rfl,rfl⟩)))
  go_ret
  exact⟨rfl,hx.below⟩
 rw[k1]at cY
 replace cY:=fe6 cY
 cases k2:s.mo.any fun m=> !am5 s.wa.length m
 rotate_left
 ·have hRb:=hbad.out (fun v=>by have:=v.mo;rw[aF0,this]at k2;cases k2)
  subst hRb
  rw[k2]at cM
  replace cM:=fe6 cM
  clear hbad hgood k1 k2 cW
  go_wp2_with(first|((go_at_call 89;refine cY.out.mono ?_;rintro e w' ⟨rfl,rfl⟩))|((go_at_call 107;refine cM.out.mono ?_;rintro e w2 ⟨rfl,hb2⟩;have x2:=hx.step (hb2.mono hx.below.size) (hw1.below hb2))))
  go_ret
  exact⟨rfl,x2.below⟩
 rw[k2]at cM
 replace cM:=fe6 cM
 have hRW:(s.wo.any fun m=> !ai5 s.mo.length m)=false→R=0:=fun k3=>hgood.out ⟨by omega,by omega,by omega,g4,aQ3 k1,aQ3 k2,aQ3 k3⟩
 have hRX:(s.wo.any fun m=> !ai5 s.mo.length m)=true→R=20:=fun k3=>hbad.out (fun v=>by have:=v.wo;rw[aF0,this]at k3;cases k3)
 clear hbad hgood k1 k2
 cases k3:s.wo.any fun m=> !ai5 s.mo.length m
 ·have e:=hRW k3
  subst e
  rw[k3]at cW
  replace cW:=fe6 cW
  clear k3 hRW hRX
  go_wp2_with(first|((go_at_call 89;refine cY.out.mono ?_;rintro e w' ⟨rfl,rfl⟩))|((go_at_call 107;refine cM.out.mono ?_;rintro e w2 ⟨rfl,hb2⟩;have x2:=hx.step (hb2.mono hx.below.size) (hw1.below hb2);have hw2:=x2.holds))|((go_at_call 108;refine(cW.out _ hw2).mono ?_;rintro e w3 ⟨rfl,hb3⟩;have x3:=x2.step (hb3.mono x2.below.size) (hw2.below hb3))))
  go_ret
  exact⟨rfl,x3.below⟩
 ·have e:=hRX k3
  subst e
  rw[k3]at cW
  replace cW:=fe6 cW
  clear k3 hRW hRX
  go_wp2_with(first|((go_at_call 89;refine cY.out.mono ?_;rintro e w' ⟨rfl,rfl⟩))|((go_at_call 107;refine cM.out.mono ?_;rintro e w2 ⟨rfl,hb2⟩;have x2:=hx.step (hb2.mono hx.below.size) (hw1.below hb2);have hw2:=x2.holds))|((go_at_call 108;refine(cW.out _ hw2).mono ?_;rintro e w3 ⟨rfl,hb3⟩;have x3:=x2.step (hb3.mono x2.below.size) (hw2.below hb3))))
  go_ret
  exact⟨rfl,x3.below⟩
theorem bL0 (t:D5):(valid t.h=false∧aH2 (F6 t)=120)∨(valid t.h=true∧Y5 t.s=false∧aH2 (F6 t)=120)∨(valid t.h=true∧Y5 t.s=true∧aH2 (F6 t)=0):=by
 unfold F6 aH2
 cases valid t.h<;>cases Y5 t.s<;>simp
theorem bi6 (vm vb vt um uo ua:Value) (t:D5) (H:j5) (w:World) (hw:j4 H w) (ht:Twn H vm vb vt um uo ua t):
 Calls Tryz.prog 48 #[ah0 vm vb vt um uo ua t] w (I1 w (.int .i64 (aH2 (F6 t)))):=by
 have cT:=fun(H1:j5) (W:World) (hW:j4 H1 W) (hle:D8 H H1)=>aj7 vm vb vt t.h H1 W hW (ht.h.mono hle)
 have cF:=fun(H1:j5) (W:World) (hW:j4 H1 W) (hle:D8 H H1)=>bi5 um uo ua t.s H1 W hW (ht.s.mono hle)
 rcases bL0 t with⟨h1,h2⟩|⟨h1,h3,h2⟩|⟨h1,h3,h2⟩
 all_goals
  rw[h2]
  rw[h1]at cT
  try rw[h3]at cF
  replace cT:=fe6 cT
  replace cF:=fe6 cF
  clear h1 h2 ht
  try clear h3
  go_enter Tryz.func48,Tryz.ntmps48
  go_wp2_with(first|(refine af8 rfl _ rfl (Ext.refl hw) ?_;intro B w1 H1 hle hx hB hBw;obtain⟨hc0,hc1,hc2,hc3,hc4,O8,hc6,O9⟩:=I5 hB;clear hB hw;have hw1:=hx.holds)|((go_at_call 56;refine(cT.out _ _ hw1 hle).mono ?_;rintro e w2 ⟨rfl,hb2⟩;have x2:=hx.step (hb2.mono hx.below.size) (hw1.below hb2);have hw2:=x2.holds))|((go_at_call 69;refine(cF.out _ _ hw2 hle).mono ?_;rintro e w3 ⟨rfl,hb3⟩;replace x2:=x2.step (hb3.mono x2.below.size) (hw2.below hb3))))
  go_ret
  exact⟨rfl,x2.below⟩
theorem bd5 (vm vb vt um uo ua:Value) (t:D5) (H:j5) (w:World) (hw:j4 H w) (ht:Twn H vm vb vt um uo ua t):
 Calls Tryz.prog 49 #[ah0 vm vb vt um uo ua t] w (I1 w (.int .i64 (aH2 (F6 t)))):=by
 have cT:=fun(H1:j5) (W:World) (hW:j4 H1 W) (hle:D8 H H1)=>cL2 vm vb vt t.h H1 W hW (ht.h.mono hle)
 have cF:=fun(H1:j5) (W:World) (hW:j4 H1 W) (hle:D8 H H1)=>cL4 um uo ua t.s H1 W hW (ht.s.mono hle)
 rcases bL0 t with⟨h1,h2⟩|⟨h1,h3,h2⟩|⟨h1,h3,h2⟩
 all_goals
  rw[h2]
  rw[h1]at cT
  try rw[h3]at cF
  replace cT:=fe6 cT
  replace cF:=fe6 cF
  clear h1 h2 ht
  try clear h3
  go_enter Tryz.func49,Tryz.ntmps49
  go_wp2_with(first|(refine af8 rfl _ rfl (Ext.refl hw) ?_;intro B w1 H1 hle hx hB hBw;obtain⟨hc0,hc1,hc2,hc3,hc4,O8,hc6,O9⟩:=I5 hB;clear hB hw;have hw1:=hx.holds)|((go_at_call 74;refine(cT.out _ _ hw1 hle).mono ?_;rintro e w2 ⟨rfl,hb2⟩;have x2:=hx.step (hb2.mono hx.below.size) (hw1.below hb2);have hw2:=x2.holds))|((go_at_call 75;refine(cF.out _ _ hw2 hle).mono ?_;rintro e w3 ⟨rfl,hb3⟩;replace x2:=x2.step (hb3.mono x2.below.size) (hw2.below hb3))))
  go_ret
  exact⟨rfl,x2.below⟩
end
section
open Go.RowKit
attribute [local go_sem] j4.drew j4.alloc j4.drewN WB.holds Oper.semAt_some
def bH3 {α:Type} [Enc α] (w0:World) (H0 H:j5) (O k:Nat) (T:TypeId) (cur:Array Value) (xs:List α) (e:Ending) (w':World):Prop:=
 e= .returned (.bool true)∧∃v' H',J4 w0 H0 O T w' H' (cur.setIfInBounds k v')∧D8 H H'∧Sl H' v' xs
theorem da4 {w0 w:World} {H0 H:j5} {O k:Nat} {T:TypeId} {cur:Array Value} (hc:J4 w0 H0 O T w H cur) {v:Value} {xs:List ah4} (hv:cur[k]? =some v) (hs:Sl H v xs) (x:ah4) (hx:K8 x.r∧K8 x.p∧K8 x.s) (hl:xs.length≤1000000):
 Calls Tryz.prog 151 #[.pointer (some ⟨O,k,none⟩),.agg #[.int .i64 x.r,.int .i64 x.p,.int .i64 x.s]] w (bH3 w0 H0 H O k T cur (xs++[x])):=by
 obtain⟨a,c,rfl,hc1,hc2⟩:=hs.form
 have hs2:=hs.cap (fh0 _) (by omega)
 obtain⟨H1,hP,al1,hput,hoth⟩:=hc.put
 have hcell:∀W,j4 H1 W→W.cell? ⟨O,k,none⟩=some (.slice a xs.length c):=fun W hW=>(D7 hput hW k).trans hv
 have hB0:Below w.heap.size w w:=Below.refl _ _
 have hxx:=fe6 hx
 clear hx
 go_enter Tryz.func151,Tryz.ntmps151
 go_upto_region 1 with(refine af8 rfl _ rfl (Ext.refl hP) ?_;intro B w1 Hb hlb hxb hBb hBw)
 have hb0:∀W,j4 Hb W→W.cell? ⟨B,0,none⟩=some (.int .i64 x.r):=fun W hW=>D7 hBb hW 0
 have hb1:∀W,j4 Hb W→W.cell? ⟨B,1,none⟩=some (.int .i64 x.p):=fun W hW=>D7 hBb hW 1
 have hb2:∀W,j4 Hb W→W.cell? ⟨B,2,none⟩=some (.int .i64 x.s):=fun W hW=>D7 hBb hW 2
 replace hcell:=lift hlb hcell
 replace hc:=hc.below hxb.below
 replace hP:=hxb.holds
 replace hB0:Below w1.heap.size w1 w1:=Below.refl _ _
 replace al1:=al1.trans hlb
 clear hBb hput hoth hlb hxb hBw
 refine U1 (S:=(fun w'=>j4 Hb w'∧Below (World.heap w1).size w1 w')) 17 (by kernel_rfl) (by kernel_rfl) ?_ (fun N9=> ?_)
 ·(try dsimp only)
  (first|assumption|exact⟨by assumption,by assumption⟩|(go_split_ands;first|exact X3 ‹_› ‹_›|exact X4 ‹_› ‹_› _|exact X5 ‹_› ‹_› _))
 simp only[ff8,fg1,fh6,fh7,fg9,fg8,fg3,ff9,fg2]
 refine hdA 0 ?_
 refine hdA 1 ?_
 refine hdA 2 ?_
 refine hdA 3 ?_
 refine hdA 4 ?_
 refine hdA 5 ?_
 refine hdA 6 ?_
 refine hdA 8 ?_
 refine hdA 9 ?_
 refine hdA 10 ?_
 refine hdA 13 ?_
 (try simp only[Act.put,fe7,ff1,ff2])
 refine hdR 7 [11,14] (fun K hK=> ?_) ?_
 ·go_simp
  refine ag1 hK (fun I4=> ?_)
  clear hK K N9
  (try simp only[Act.put,fe7,ff1,ff2])
  refine hdR 11 [14] (fun K hK=> ?_) ?_
  ·go_simp
   refine ag1 hK (fun F8=> ?_)
   clear hK K I4
   refine hdA 12 ?_
   (try simp only[Act.put,fe7,ff1,ff2])
   refine hdR 14 [] (fun K hK=> ?_) r9.nil
   go_simp
   refine ag1 hK (fun F9=> ?_)
   clear hK K F8
   (try simp only[Act.put,fe7,ff1,ff2])
   refine hdR 15 [] (fun K hK=> ?_) r9.nil
   (go_split_ands;refine ab0 aY9 rfl _ _ rfl rfl hs2 rfl ⟨rfl,hxx.out⟩ (by intro j u hu;match j,hu with|0,hu=>(simp at hu;subst hu;simp[go_sem])|1,hu=>(simp at hu;subst hu;simp[go_sem])|2,hu=>(simp at hu;subst hu;simp[go_sem])|n+3,hu=>simp at hu) (j4.mono ‹_› al1) (by simp[Enc.M4];omega) (by omega) ?_;intro v' w' q1 q2 q3;have k1:j4 Hb w':=j4.grown ‹_› q2 (by simp);have k2:Below w1.heap.size w1 w':=Below.grown ‹_› q2 (Below.size ‹_›) (by simp))
   refine ag1 hK (fun I7=> ?_)
   clear hK K
   refine hdA 16 ?_
   (try simp only[Act.put,fe7,ff1,ff2])
   refine G9 (by kernel_rfl) ?_
   simp only[ff5,ff6]
   obtain⟨a',c',rfl,_,_⟩:=q1.form
   have hcB:=hc.below k2
   have h2:=(hcB.cell k).trans hv
   have h3:=hcB.fz k
   go_wp2
   go_ret
   have hlt:=hc.lt
   obtain⟨H',hC,hle',hs'⟩:=hcB.close q1 (fh1 hc.x.below.size (by simp)) (fun e=>by have h5:=(q1.lt O e).1;simp at h5;omega)
   rw[ff4,ff7]at hs'
   exact⟨rfl,_,H',hC.set k _,hle',hs'⟩
  refine r9.cons (by simp only[ff0,fe9,fe8]<;>rfl) (fun K hK=> ?_) ?_
  ·go_simp
   refine ag1 hK (fun F8=> ?_)
   clear hK K I4
   (try simp only[Act.put,fe7,ff1,ff2])
   refine hdR 11 [] (fun K hK=> ?_) r9.nil
   go_simp
   refine ag1 hK (fun F9=> ?_)
   clear hK K F8
   refine hdA 12 ?_
   (try simp only[Act.put,fe7,ff1,ff2])
   refine hdR 15 [] (fun K hK=> ?_) r9.nil
   (go_split_ands;refine ab0 aY9 rfl _ _ rfl rfl hs2 rfl ⟨rfl,hxx.out⟩ (by intro j u hu;match j,hu with|0,hu=>(simp at hu;subst hu;simp[go_sem])|1,hu=>(simp at hu;subst hu;simp[go_sem])|2,hu=>(simp at hu;subst hu;simp[go_sem])|n+3,hu=>simp at hu) (j4.mono ‹_› al1) (by simp[Enc.M4];omega) (by omega) ?_;intro v' w' q1 q2 q3;have k1:j4 Hb w':=j4.grown ‹_› q2 (by simp);have k2:Below w1.heap.size w1 w':=Below.grown ‹_› q2 (Below.size ‹_›) (by simp))
   refine ag1 hK (fun I7=> ?_)
   clear hK K
   refine hdA 16 ?_
   (try simp only[Act.put,fe7,ff1,ff2])
   refine G9 (by kernel_rfl) ?_
   simp only[ff5,ff6]
   obtain⟨a',c',rfl,_,_⟩:=q1.form
   have hcB:=hc.below k2
   have h2:=(hcB.cell k).trans hv
   have h3:=hcB.fz k
   go_wp2
   go_ret
   have hlt:=hc.lt
   obtain⟨H',hC,hle',hs'⟩:=hcB.close q1 (fh1 hc.x.below.size (by simp)) (fun e=>by have h5:=(q1.lt O e).1;simp at h5;omega)
   rw[ff4,ff7]at hs'
   exact⟨rfl,_,H',hC.set k _,hle',hs'⟩
  exact r9.nil
 refine r9.cons (by simp only[ff0,fe9,fe8]<;>rfl) (fun K hK=> ?_) ?_
 ·go_simp
  refine ag1 hK (fun I4=> ?_)
  clear hK K N9
  (try simp only[Act.put,fe7,ff1,ff2])
  refine hdR 7 [14] (fun K hK=> ?_) ?_
  ·go_simp
   refine ag1 hK (fun F8=> ?_)
   clear hK K I4
   refine hdA 12 ?_
   (try simp only[Act.put,fe7,ff1,ff2])
   refine hdR 14 [] (fun K hK=> ?_) r9.nil
   go_simp
   refine ag1 hK (fun F9=> ?_)
   clear hK K F8
   (try simp only[Act.put,fe7,ff1,ff2])
   refine hdR 15 [] (fun K hK=> ?_) r9.nil
   (go_split_ands;refine ab0 aY9 rfl _ _ rfl rfl hs2 rfl ⟨rfl,hxx.out⟩ (by intro j u hu;match j,hu with|0,hu=>(simp at hu;subst hu;simp[go_sem])|1,hu=>(simp at hu;subst hu;simp[go_sem])|2,hu=>(simp at hu;subst hu;simp[go_sem])|n+3,hu=>simp at hu) (j4.mono ‹_› al1) (by simp[Enc.M4];omega) (by omega) ?_;intro v' w' q1 q2 q3;have k1:j4 Hb w':=j4.grown ‹_› q2 (by simp);have k2:Below w1.heap.size w1 w':=Below.grown ‹_› q2 (Below.size ‹_›) (by simp))
   refine ag1 hK (fun I7=> ?_)
   clear hK K
   refine hdA 16 ?_
   (try simp only[Act.put,fe7,ff1,ff2])
   refine G9 (by kernel_rfl) ?_
   simp only[ff5,ff6]
   obtain⟨a',c',rfl,_,_⟩:=q1.form
   have hcB:=hc.below k2
   have h2:=(hcB.cell k).trans hv
   have h3:=hcB.fz k
   go_wp2
   go_ret
   have hlt:=hc.lt
   obtain⟨H',hC,hle',hs'⟩:=hcB.close q1 (fh1 hc.x.below.size (by simp)) (fun e=>by have h5:=(q1.lt O e).1;simp at h5;omega)
   rw[ff4,ff7]at hs'
   exact⟨rfl,_,H',hC.set k _,hle',hs'⟩
  refine r9.cons (by simp only[ff0,fe9,fe8]<;>rfl) (fun K hK=> ?_) ?_
  ·go_simp
   refine ag1 hK (fun F8=> ?_)
   clear hK K I4
   (try simp only[Act.put,fe7,ff1,ff2])
   refine hdR 7 [] (fun K hK=> ?_) r9.nil
   go_simp
   refine ag1 hK (fun F9=> ?_)
   clear hK K F8
   refine hdA 12 ?_
   (try simp only[Act.put,fe7,ff1,ff2])
   refine hdR 15 [] (fun K hK=> ?_) r9.nil
   (go_split_ands;refine ab0 aY9 rfl _ _ rfl rfl hs2 rfl ⟨rfl,hxx.out⟩ (by intro j u hu;match j,hu with|0,hu=>(simp at hu;subst hu;simp[go_sem])|1,hu=>(simp at hu;subst hu;simp[go_sem])|2,hu=>(simp at hu;subst hu;simp[go_sem])|n+3,hu=>simp at hu) (j4.mono ‹_› al1) (by simp[Enc.M4];omega) (by omega) ?_;intro v' w' q1 q2 q3;have k1:j4 Hb w':=j4.grown ‹_› q2 (by simp);have k2:Below w1.heap.size w1 w':=Below.grown ‹_› q2 (Below.size ‹_›) (by simp))
   refine ag1 hK (fun I7=> ?_)
   clear hK K
   refine hdA 16 ?_
   (try simp only[Act.put,fe7,ff1,ff2])
   refine G9 (by kernel_rfl) ?_
   simp only[ff5,ff6]
   obtain⟨a',c',rfl,_,_⟩:=q1.form
   have hcB:=hc.below k2
   have h2:=(hcB.cell k).trans hv
   have h3:=hcB.fz k
   go_wp2
   go_ret
   have hlt:=hc.lt
   obtain⟨H',hC,hle',hs'⟩:=hcB.close q1 (fh1 hc.x.below.size (by simp)) (fun e=>by have h5:=(q1.lt O e).1;simp at h5;omega)
   rw[ff4,ff7]at hs'
   exact⟨rfl,_,H',hC.set k _,hle',hs'⟩
  exact r9.nil
 refine r9.cons (by simp only[ff0,fe9,fe8]<;>rfl) (fun K hK=> ?_) ?_
 ·go_simp
  refine ag1 hK (fun I4=> ?_)
  clear hK K N9
  (try simp only[Act.put,fe7,ff1,ff2])
  refine hdR 7 [11] (fun K hK=> ?_) ?_
  ·go_simp
   refine ag1 hK (fun F8=> ?_)
   clear hK K I4
   (try simp only[Act.put,fe7,ff1,ff2])
   refine hdR 11 [] (fun K hK=> ?_) r9.nil
   go_simp
   refine ag1 hK (fun F9=> ?_)
   clear hK K F8
   refine hdA 12 ?_
   (try simp only[Act.put,fe7,ff1,ff2])
   refine hdR 15 [] (fun K hK=> ?_) r9.nil
   (go_split_ands;refine ab0 aY9 rfl _ _ rfl rfl hs2 rfl ⟨rfl,hxx.out⟩ (by intro j u hu;match j,hu with|0,hu=>(simp at hu;subst hu;simp[go_sem])|1,hu=>(simp at hu;subst hu;simp[go_sem])|2,hu=>(simp at hu;subst hu;simp[go_sem])|n+3,hu=>simp at hu) (j4.mono ‹_› al1) (by simp[Enc.M4];omega) (by omega) ?_;intro v' w' q1 q2 q3;have k1:j4 Hb w':=j4.grown ‹_› q2 (by simp);have k2:Below w1.heap.size w1 w':=Below.grown ‹_› q2 (Below.size ‹_›) (by simp))
   refine ag1 hK (fun I7=> ?_)
   clear hK K
   refine hdA 16 ?_
   (try simp only[Act.put,fe7,ff1,ff2])
   refine G9 (by kernel_rfl) ?_
   simp only[ff5,ff6]
   obtain⟨a',c',rfl,_,_⟩:=q1.form
   have hcB:=hc.below k2
   have h2:=(hcB.cell k).trans hv
   have h3:=hcB.fz k
   go_wp2
   go_ret
   have hlt:=hc.lt
   obtain⟨H',hC,hle',hs'⟩:=hcB.close q1 (fh1 hc.x.below.size (by simp)) (fun e=>by have h5:=(q1.lt O e).1;simp at h5;omega)
   rw[ff4,ff7]at hs'
   exact⟨rfl,_,H',hC.set k _,hle',hs'⟩
  refine r9.cons (by simp only[ff0,fe9,fe8]<;>rfl) (fun K hK=> ?_) ?_
  ·go_simp
   refine ag1 hK (fun F8=> ?_)
   clear hK K I4
   (try simp only[Act.put,fe7,ff1,ff2])
   refine hdR 7 [] (fun K hK=> ?_) r9.nil
   go_simp
   refine ag1 hK (fun F9=> ?_)
   clear hK K F8
   refine hdA 12 ?_
   (try simp only[Act.put,fe7,ff1,ff2])
   refine hdR 15 [] (fun K hK=> ?_) r9.nil
   (go_split_ands;refine ab0 aY9 rfl _ _ rfl rfl hs2 rfl ⟨rfl,hxx.out⟩ (by intro j u hu;match j,hu with|0,hu=>(simp at hu;subst hu;simp[go_sem])|1,hu=>(simp at hu;subst hu;simp[go_sem])|2,hu=>(simp at hu;subst hu;simp[go_sem])|n+3,hu=>simp at hu) (j4.mono ‹_› al1) (by simp[Enc.M4];omega) (by omega) ?_;intro v' w' q1 q2 q3;have k1:j4 Hb w':=j4.grown ‹_› q2 (by simp);have k2:Below w1.heap.size w1 w':=Below.grown ‹_› q2 (Below.size ‹_›) (by simp))
   refine ag1 hK (fun I7=> ?_)
   clear hK K
   refine hdA 16 ?_
   (try simp only[Act.put,fe7,ff1,ff2])
   refine G9 (by kernel_rfl) ?_
   simp only[ff5,ff6]
   obtain⟨a',c',rfl,_,_⟩:=q1.form
   have hcB:=hc.below k2
   have h2:=(hcB.cell k).trans hv
   have h3:=hcB.fz k
   go_wp2
   go_ret
   have hlt:=hc.lt
   obtain⟨H',hC,hle',hs'⟩:=hcB.close q1 (fh1 hc.x.below.size (by simp)) (fun e=>by have h5:=(q1.lt O e).1;simp at h5;omega)
   rw[ff4,ff7]at hs'
   exact⟨rfl,_,H',hC.set k _,hle',hs'⟩
  exact r9.nil
 exact r9.nil
theorem da5 {w0 w:World} {H0 H:j5} {O k:Nat} {T:TypeId} {cur:Array Value} (hc:J4 w0 H0 O T w H cur) {v:Value} {xs:List ar8} (hv:cur[k]? =some v) (hs:Sl H v xs) (x:ar8) (hx:K8 x.t∧K8 x.h∧K8 x.e) (hl:xs.length≤1000000):
 Calls Tryz.prog 159 #[.pointer (some ⟨O,k,none⟩),.agg #[.int .i64 x.t,.int .i64 x.h,.int .i64 x.e]] w (bH3 w0 H0 H O k T cur (xs++[x])):=by
 obtain⟨a,c,rfl,hc1,hc2⟩:=hs.form
 have hs2:=hs.cap (fh0 _) (by omega)
 obtain⟨H1,hP,al1,hput,hoth⟩:=hc.put
 have hcell:∀W,j4 H1 W→W.cell? ⟨O,k,none⟩=some (.slice a xs.length c):=fun W hW=>(D7 hput hW k).trans hv
 have hB0:Below w.heap.size w w:=Below.refl _ _
 have hxx:=fe6 hx
 clear hx
 go_enter Tryz.func159,Tryz.ntmps159
 go_upto_region 1 with(refine af8 rfl _ rfl (Ext.refl hP) ?_;intro B w1 Hb hlb hxb hBb hBw)
 have hb0:∀W,j4 Hb W→W.cell? ⟨B,0,none⟩=some (.int .i64 x.t):=fun W hW=>D7 hBb hW 0
 have hb1:∀W,j4 Hb W→W.cell? ⟨B,1,none⟩=some (.int .i64 x.h):=fun W hW=>D7 hBb hW 1
 have hb2:∀W,j4 Hb W→W.cell? ⟨B,2,none⟩=some (.int .i64 x.e):=fun W hW=>D7 hBb hW 2
 replace hcell:=lift hlb hcell
 replace hc:=hc.below hxb.below
 replace hP:=hxb.holds
 replace hB0:Below w1.heap.size w1 w1:=Below.refl _ _
 replace al1:=al1.trans hlb
 clear hBb hput hoth hlb hxb hBw
 refine U1 (S:=(fun w'=>j4 Hb w'∧Below (World.heap w1).size w1 w')) 17 (by kernel_rfl) (by kernel_rfl) ?_ (fun N9=> ?_)
 ·(try dsimp only)
  (first|assumption|exact⟨by assumption,by assumption⟩|(go_split_ands;first|exact X3 ‹_› ‹_›|exact X4 ‹_› ‹_› _|exact X5 ‹_› ‹_› _))
 simp only[ff8,fg1,fh6,fh7,fg9,fg8,fg3,ff9,fg2]
 refine hdA 0 ?_
 refine hdA 1 ?_
 refine hdA 2 ?_
 refine hdA 3 ?_
 refine hdA 4 ?_
 refine hdA 5 ?_
 refine hdA 6 ?_
 refine hdA 8 ?_
 refine hdA 9 ?_
 refine hdA 10 ?_
 refine hdA 13 ?_
 (try simp only[Act.put,fe7,ff1,ff2])
 refine hdR 7 [11,14] (fun K hK=> ?_) ?_
 ·go_simp
  refine ag1 hK (fun I4=> ?_)
  clear hK K N9
  (try simp only[Act.put,fe7,ff1,ff2])
  refine hdR 11 [14] (fun K hK=> ?_) ?_
  ·go_simp
   refine ag1 hK (fun F8=> ?_)
   clear hK K I4
   refine hdA 12 ?_
   (try simp only[Act.put,fe7,ff1,ff2])
   refine hdR 14 [] (fun K hK=> ?_) r9.nil
   go_simp
   refine ag1 hK (fun F9=> ?_)
   clear hK K F8
   (try simp only[Act.put,fe7,ff1,ff2])
   refine hdR 15 [] (fun K hK=> ?_) r9.nil
   (go_split_ands;refine ab0 aZ0 rfl _ _ rfl rfl hs2 rfl ⟨rfl,hxx.out⟩ (by intro j u hu;match j,hu with|0,hu=>(simp at hu;subst hu;simp[go_sem])|1,hu=>(simp at hu;subst hu;simp[go_sem])|2,hu=>(simp at hu;subst hu;simp[go_sem])|n+3,hu=>simp at hu) (j4.mono ‹_› al1) (by simp[Enc.M4];omega) (by omega) ?_;intro v' w' q1 q2 q3;have k1:j4 Hb w':=j4.grown ‹_› q2 (by simp);have k2:Below w1.heap.size w1 w':=Below.grown ‹_› q2 (Below.size ‹_›) (by simp))
   refine ag1 hK (fun I7=> ?_)
   clear hK K
   refine hdA 16 ?_
   (try simp only[Act.put,fe7,ff1,ff2])
   refine G9 (by kernel_rfl) ?_
   simp only[ff5,ff6]
   obtain⟨a',c',rfl,_,_⟩:=q1.form
   have hcB:=hc.below k2
   have h2:=(hcB.cell k).trans hv
   have h3:=hcB.fz k
   go_wp2
   go_ret
   have hlt:=hc.lt
   obtain⟨H',hC,hle',hs'⟩:=hcB.close q1 (fh1 hc.x.below.size (by simp)) (fun e=>by have h5:=(q1.lt O e).1;simp at h5;omega)
   rw[ff4,ff7]at hs'
   exact⟨rfl,_,H',hC.set k _,hle',hs'⟩
  refine r9.cons (by simp only[ff0,fe9,fe8]<;>rfl) (fun K hK=> ?_) ?_
  ·go_simp
   refine ag1 hK (fun F8=> ?_)
   clear hK K I4
   (try simp only[Act.put,fe7,ff1,ff2])
   refine hdR 11 [] (fun K hK=> ?_) r9.nil
   go_simp
   refine ag1 hK (fun F9=> ?_)
   clear hK K F8
   refine hdA 12 ?_
   (try simp only[Act.put,fe7,ff1,ff2])
   refine hdR 15 [] (fun K hK=> ?_) r9.nil
   (go_split_ands;refine ab0 aZ0 rfl _ _ rfl rfl hs2 rfl ⟨rfl,hxx.out⟩ (by intro j u hu;match j,hu with|0,hu=>(simp at hu;subst hu;simp[go_sem])|1,hu=>(simp at hu;subst hu;simp[go_sem])|2,hu=>(simp at hu;subst hu;simp[go_sem])|n+3,hu=>simp at hu) (j4.mono ‹_› al1) (by simp[Enc.M4];omega) (by omega) ?_;intro v' w' q1 q2 q3;have k1:j4 Hb w':=j4.grown ‹_› q2 (by simp);have k2:Below w1.heap.size w1 w':=Below.grown ‹_› q2 (Below.size ‹_›) (by simp))
   refine ag1 hK (fun I7=> ?_)
   clear hK K
   refine hdA 16 ?_
   (try simp only[Act.put,fe7,ff1,ff2])
   refine G9 (by kernel_rfl) ?_
   simp only[ff5,ff6]
   obtain⟨a',c',rfl,_,_⟩:=q1.form
   have hcB:=hc.below k2
   have h2:=(hcB.cell k).trans hv
   have h3:=hcB.fz k
   go_wp2
   go_ret
   have hlt:=hc.lt
   obtain⟨H',hC,hle',hs'⟩:=hcB.close q1 (fh1 hc.x.below.size (by simp)) (fun e=>by have h5:=(q1.lt O e).1;simp at h5;omega)
   rw[ff4,ff7]at hs'
   exact⟨rfl,_,H',hC.set k _,hle',hs'⟩
  exact r9.nil
 refine r9.cons (by simp only[ff0,fe9,fe8]<;>rfl) (fun K hK=> ?_) ?_
 ·go_simp
  refine ag1 hK (fun I4=> ?_)
  clear hK K N9
  (try simp only[Act.put,fe7,ff1,ff2])
  refine hdR 7 [14] (fun K hK=> ?_) ?_
  ·go_simp
   refine ag1 hK (fun F8=> ?_)
   clear hK K I4
   refine hdA 12 ?_
   (try simp only[Act.put,fe7,ff1,ff2])
   refine hdR 14 [] (fun K hK=> ?_) r9.nil
   go_simp
   refine ag1 hK (fun F9=> ?_)
   clear hK K F8
   (try simp only[Act.put,fe7,ff1,ff2])
   refine hdR 15 [] (fun K hK=> ?_) r9.nil
   (go_split_ands;refine ab0 aZ0 rfl _ _ rfl rfl hs2 rfl ⟨rfl,hxx.out⟩ (by intro j u hu;match j,hu with|0,hu=>(simp at hu;subst hu;simp[go_sem])|1,hu=>(simp at hu;subst hu;simp[go_sem])|2,hu=>(simp at hu;subst hu;simp[go_sem])|n+3,hu=>simp at hu) (j4.mono ‹_› al1) (by simp[Enc.M4];omega) (by omega) ?_;intro v' w' q1 q2 q3;have k1:j4 Hb w':=j4.grown ‹_› q2 (by simp);have k2:Below w1.heap.size w1 w':=Below.grown ‹_› q2 (Below.size ‹_›) (by simp))
   refine ag1 hK (fun I7=> ?_)
   clear hK K
   refine hdA 16 ?_
   (try simp only[Act.put,fe7,ff1,ff2])
   refine G9 (by kernel_rfl) ?_
   simp only[ff5,ff6]
   obtain⟨a',c',rfl,_,_⟩:=q1.form
   have hcB:=hc.below k2
   have h2:=(hcB.cell k).trans hv
   have h3:=hcB.fz k
   go_wp2
   go_ret
   have hlt:=hc.lt
   obtain⟨H',hC,hle',hs'⟩:=hcB.close q1 (fh1 hc.x.below.size (by simp)) (fun e=>by have h5:=(q1.lt O e).1;simp at h5;omega)
   rw[ff4,ff7]at hs'
   exact⟨rfl,_,H',hC.set k _,hle',hs'⟩
  refine r9.cons (by simp only[ff0,fe9,fe8]<;>rfl) (fun K hK=> ?_) ?_
  ·go_simp
   refine ag1 hK (fun F8=> ?_)
   clear hK K I4
   (try simp only[Act.put,fe7,ff1,ff2])
   refine hdR 7 [] (fun K hK=> ?_) r9.nil
   go_simp
   refine ag1 hK (fun F9=> ?_)
   clear hK K F8
   refine hdA 12 ?_
   (try simp only[Act.put,fe7,ff1,ff2])
   refine hdR 15 [] (fun K hK=> ?_) r9.nil
   (go_split_ands;refine ab0 aZ0 rfl _ _ rfl rfl hs2 rfl ⟨rfl,hxx.out⟩ (by intro j u hu;match j,hu with|0,hu=>(simp at hu;subst hu;simp[go_sem])|1,hu=>(simp at hu;subst hu;simp[go_sem])|2,hu=>(simp at hu;subst hu;simp[go_sem])|n+3,hu=>simp at hu) (j4.mono ‹_› al1) (by simp[Enc.M4];omega) (by omega) ?_;intro v' w' q1 q2 q3;have k1:j4 Hb w':=j4.grown ‹_› q2 (by simp);have k2:Below w1.heap.size w1 w':=Below.grown ‹_› q2 (Below.size ‹_›) (by simp))
   refine ag1 hK (fun I7=> ?_)
   clear hK K
   refine hdA 16 ?_
   (try simp only[Act.put,fe7,ff1,ff2])
   refine G9 (by kernel_rfl) ?_
   simp only[ff5,ff6]
   obtain⟨a',c',rfl,_,_⟩:=q1.form
   have hcB:=hc.below k2
   have h2:=(hcB.cell k).trans hv
   have h3:=hcB.fz k
   go_wp2
   go_ret
   have hlt:=hc.lt
   obtain⟨H',hC,hle',hs'⟩:=hcB.close q1 (fh1 hc.x.below.size (by simp)) (fun e=>by have h5:=(q1.lt O e).1;simp at h5;omega)
   rw[ff4,ff7]at hs'
   exact⟨rfl,_,H',hC.set k _,hle',hs'⟩
  exact r9.nil
 refine r9.cons (by simp only[ff0,fe9,fe8]<;>rfl) (fun K hK=> ?_) ?_
 ·go_simp
  refine ag1 hK (fun I4=> ?_)
  clear hK K N9
  (try simp only[Act.put,fe7,ff1,ff2])
  refine hdR 7 [11] (fun K hK=> ?_) ?_
  ·go_simp
   refine ag1 hK (fun F8=> ?_)
   clear hK K I4
   (try simp only[Act.put,fe7,ff1,ff2])
   refine hdR 11 [] (fun K hK=> ?_) r9.nil
   go_simp
   refine ag1 hK (fun F9=> ?_)
   clear hK K F8
   refine hdA 12 ?_
   (try simp only[Act.put,fe7,ff1,ff2])
   refine hdR 15 [] (fun K hK=> ?_) r9.nil
   (go_split_ands;refine ab0 aZ0 rfl _ _ rfl rfl hs2 rfl ⟨rfl,hxx.out⟩ (by intro j u hu;match j,hu with|0,hu=>(simp at hu;subst hu;simp[go_sem])|1,hu=>(simp at hu;subst hu;simp[go_sem])|2,hu=>(simp at hu;subst hu;simp[go_sem])|n+3,hu=>simp at hu) (j4.mono ‹_› al1) (by simp[Enc.M4];omega) (by omega) ?_;intro v' w' q1 q2 q3;have k1:j4 Hb w':=j4.grown ‹_› q2 (by simp);have k2:Below w1.heap.size w1 w':=Below.grown ‹_› q2 (Below.size ‹_›) (by simp))
   refine ag1 hK (fun I7=> ?_)
   clear hK K
   refine hdA 16 ?_
   (try simp only[Act.put,fe7,ff1,ff2])
   refine G9 (by kernel_rfl) ?_
   simp only[ff5,ff6]
   obtain⟨a',c',rfl,_,_⟩:=q1.form
   have hcB:=hc.below k2
   have h2:=(hcB.cell k).trans hv
   have h3:=hcB.fz k
   go_wp2
   go_ret
   have hlt:=hc.lt
   obtain⟨H',hC,hle',hs'⟩:=hcB.close q1 (fh1 hc.x.below.size (by simp)) (fun e=>by have h5:=(q1.lt O e).1;simp at h5;omega)
   rw[ff4,ff7]at hs'
   exact⟨rfl,_,H',hC.set k _,hle',hs'⟩
  refine r9.cons (by simp only[ff0,fe9,fe8]<;>rfl) (fun K hK=> ?_) ?_
  ·go_simp
   refine ag1 hK (fun F8=> ?_)
   clear hK K I4
   (try simp only[Act.put,fe7,ff1,ff2])
   refine hdR 7 [] (fun K hK=> ?_) r9.nil
   go_simp
   refine ag1 hK (fun F9=> ?_)
   clear hK K F8
   refine hdA 12 ?_
   (try simp only[Act.put,fe7,ff1,ff2])
   refine hdR 15 [] (fun K hK=> ?_) r9.nil
   (go_split_ands;refine ab0 aZ0 rfl _ _ rfl rfl hs2 rfl ⟨rfl,hxx.out⟩ (by intro j u hu;match j,hu with|0,hu=>(simp at hu;subst hu;simp[go_sem])|1,hu=>(simp at hu;subst hu;simp[go_sem])|2,hu=>(simp at hu;subst hu;simp[go_sem])|n+3,hu=>simp at hu) (j4.mono ‹_› al1) (by simp[Enc.M4];omega) (by omega) ?_;intro v' w' q1 q2 q3;have k1:j4 Hb w':=j4.grown ‹_› q2 (by simp);have k2:Below w1.heap.size w1 w':=Below.grown ‹_› q2 (Below.size ‹_›) (by simp))
   refine ag1 hK (fun I7=> ?_)
   clear hK K
   refine hdA 16 ?_
   (try simp only[Act.put,fe7,ff1,ff2])
   refine G9 (by kernel_rfl) ?_
   simp only[ff5,ff6]
   obtain⟨a',c',rfl,_,_⟩:=q1.form
   have hcB:=hc.below k2
   have h2:=(hcB.cell k).trans hv
   have h3:=hcB.fz k
   go_wp2
   go_ret
   have hlt:=hc.lt
   obtain⟨H',hC,hle',hs'⟩:=hcB.close q1 (fh1 hc.x.below.size (by simp)) (fun e=>by have h5:=(q1.lt O e).1;simp at h5;omega)
   rw[ff4,ff7]at hs'
   exact⟨rfl,_,H',hC.set k _,hle',hs'⟩
  exact r9.nil
 exact r9.nil
theorem da6 {w0 w:World} {H0 H:j5} {O k:Nat} {T:TypeId} {cur:Array Value} (hc:J4 w0 H0 O T w H cur) {v:Value} {xs:List Int} (hv:cur[k]? =some v) (hs:Sl H v xs) (x:Int) (hx:K8 x) (hl:xs.length≤1000000):
 Calls Tryz.prog 155 #[.pointer (some ⟨O,k,none⟩),.int .i64 x] w (bH3 w0 H0 H O k T cur (xs++[x])):=by
 obtain⟨a,c,rfl,hc1,hc2⟩:=hs.form
 have hs2:=hs.cap (fh0 _) (by omega)
 obtain⟨H1,hP,al1,hput,hoth⟩:=hc.put
 have hcell:∀W,j4 H1 W→W.cell? ⟨O,k,none⟩=some (.slice a xs.length c):=fun W hW=>(D7 hput hW k).trans hv
 have hB0:Below w.heap.size w w:=Below.refl _ _
 have hxx:=fe6 hx
 clear hx
 go_enter Tryz.func155,Tryz.ntmps155
 go_upto_region 1 with fail
 refine U1 (S:=(fun w'=>j4 H1 w'∧Below (World.heap w).size w w')) 17 (by kernel_rfl) (by kernel_rfl) ?_ (fun N9=> ?_)
 ·(try dsimp only)
  (first|assumption|exact⟨by assumption,by assumption⟩|(go_split_ands;first|exact X3 ‹_› ‹_›|exact X4 ‹_› ‹_› _|exact X5 ‹_› ‹_› _))
 simp only[ff8,fg1,fh6,fh7,fg9,fg8,fg3,ff9,fg2]
 refine hdA 0 ?_
 refine hdA 1 ?_
 refine hdA 2 ?_
 refine hdA 3 ?_
 refine hdA 4 ?_
 refine hdA 5 ?_
 refine hdA 6 ?_
 refine hdA 8 ?_
 refine hdA 9 ?_
 refine hdA 10 ?_
 refine hdA 13 ?_
 (try simp only[Act.put,fe7,ff1,ff2])
 refine hdR 7 [11,14] (fun K hK=> ?_) ?_
 ·go_simp
  refine ag1 hK (fun I4=> ?_)
  clear hK K N9
  (try simp only[Act.put,fe7,ff1,ff2])
  refine hdR 11 [14] (fun K hK=> ?_) ?_
  ·go_simp
   refine ag1 hK (fun F8=> ?_)
   clear hK K I4
   refine hdA 12 ?_
   (try simp only[Act.put,fe7,ff1,ff2])
   refine hdR 14 [] (fun K hK=> ?_) r9.nil
   go_simp
   refine ag1 hK (fun F9=> ?_)
   clear hK K F8
   (try simp only[Act.put,fe7,ff1,ff2])
   refine hdR 15 [] (fun K hK=> ?_) r9.nil
   (go_split_ands;refine ab0 ag8 rfl _ _ rfl rfl hs2 rfl ⟨rfl,hxx.out⟩ (one_cell (by simp[go_sem])) (j4.mono ‹_› al1) (by simp[Enc.M4];omega) (by omega) ?_;intro v' w' q1 q2 q3;have k1:j4 H1 w':=j4.grown ‹_› q2 (by simp);have k2:Below w.heap.size w w':=Below.grown ‹_› q2 (Below.size ‹_›) (by simp))
   refine ag1 hK (fun I7=> ?_)
   clear hK K
   refine hdA 16 ?_
   (try simp only[Act.put,fe7,ff1,ff2])
   refine G9 (by kernel_rfl) ?_
   simp only[ff5,ff6]
   obtain⟨a',c',rfl,_,_⟩:=q1.form
   have hcB:=hc.below k2
   have h2:=(hcB.cell k).trans hv
   have h3:=hcB.fz k
   go_wp2
   go_ret
   have hlt:=hc.lt
   obtain⟨H',hC,hle',hs'⟩:=hcB.close q1 (fh1 hc.x.below.size (by simp)) (fun e=>by have h5:=(q1.lt O e).1;simp at h5;omega)
   rw[ff4,ff7]at hs'
   exact⟨rfl,_,H',hC.set k _,hle',hs'⟩
  refine r9.cons (by simp only[ff0,fe9,fe8]<;>rfl) (fun K hK=> ?_) ?_
  ·go_simp
   refine ag1 hK (fun F8=> ?_)
   clear hK K I4
   (try simp only[Act.put,fe7,ff1,ff2])
   refine hdR 11 [] (fun K hK=> ?_) r9.nil
   go_simp
   refine ag1 hK (fun F9=> ?_)
   clear hK K F8
   refine hdA 12 ?_
   (try simp only[Act.put,fe7,ff1,ff2])
   refine hdR 15 [] (fun K hK=> ?_) r9.nil
   (go_split_ands;refine ab0 ag8 rfl _ _ rfl rfl hs2 rfl ⟨rfl,hxx.out⟩ (one_cell (by simp[go_sem])) (j4.mono ‹_› al1) (by simp[Enc.M4];omega) (by omega) ?_;intro v' w' q1 q2 q3;have k1:j4 H1 w':=j4.grown ‹_› q2 (by simp);have k2:Below w.heap.size w w':=Below.grown ‹_› q2 (Below.size ‹_›) (by simp))
   refine ag1 hK (fun I7=> ?_)
   clear hK K
   refine hdA 16 ?_
   (try simp only[Act.put,fe7,ff1,ff2])
   refine G9 (by kernel_rfl) ?_
   simp only[ff5,ff6]
   obtain⟨a',c',rfl,_,_⟩:=q1.form
   have hcB:=hc.below k2
   have h2:=(hcB.cell k).trans hv
   have h3:=hcB.fz k
   go_wp2
   go_ret
   have hlt:=hc.lt
   obtain⟨H',hC,hle',hs'⟩:=hcB.close q1 (fh1 hc.x.below.size (by simp)) (fun e=>by have h5:=(q1.lt O e).1;simp at h5;omega)
   rw[ff4,ff7]at hs'
   exact⟨rfl,_,H',hC.set k _,hle',hs'⟩
  exact r9.nil
 refine r9.cons (by simp only[ff0,fe9,fe8]<;>rfl) (fun K hK=> ?_) ?_
 ·go_simp
  refine ag1 hK (fun I4=> ?_)
  clear hK K N9
  (try simp only[Act.put,fe7,ff1,ff2])
  refine hdR 7 [14] (fun K hK=> ?_) ?_
  ·go_simp
   refine ag1 hK (fun F8=> ?_)
   clear hK K I4
   refine hdA 12 ?_
   (try simp only[Act.put,fe7,ff1,ff2])
   refine hdR 14 [] (fun K hK=> ?_) r9.nil
   go_simp
   refine ag1 hK (fun F9=> ?_)
   clear hK K F8
   (try simp only[Act.put,fe7,ff1,ff2])
   refine hdR 15 [] (fun K hK=> ?_) r9.nil
   (go_split_ands;refine ab0 ag8 rfl _ _ rfl rfl hs2 rfl ⟨rfl,hxx.out⟩ (one_cell (by simp[go_sem])) (j4.mono ‹_› al1) (by simp[Enc.M4];omega) (by omega) ?_;intro v' w' q1 q2 q3;have k1:j4 H1 w':=j4.grown ‹_› q2 (by simp);have k2:Below w.heap.size w w':=Below.grown ‹_› q2 (Below.size ‹_›) (by simp))
   refine ag1 hK (fun I7=> ?_)
   clear hK K
   refine hdA 16 ?_
   (try simp only[Act.put,fe7,ff1,ff2])
   refine G9 (by kernel_rfl) ?_
   simp only[ff5,ff6]
   obtain⟨a',c',rfl,_,_⟩:=q1.form
   have hcB:=hc.below k2
   have h2:=(hcB.cell k).trans hv
   have h3:=hcB.fz k
   go_wp2
   go_ret
   have hlt:=hc.lt
   obtain⟨H',hC,hle',hs'⟩:=hcB.close q1 (fh1 hc.x.below.size (by simp)) (fun e=>by have h5:=(q1.lt O e).1;simp at h5;omega)
   rw[ff4,ff7]at hs'
   exact⟨rfl,_,H',hC.set k _,hle',hs'⟩
  refine r9.cons (by simp only[ff0,fe9,fe8]<;>rfl) (fun K hK=> ?_) ?_
  ·go_simp
   refine ag1 hK (fun F8=> ?_)
   clear hK K I4
   (try simp only[Act.put,fe7,ff1,ff2])
   refine hdR 7 [] (fun K hK=> ?_) r9.nil
   go_simp
   refine ag1 hK (fun F9=> ?_)
   clear hK K F8
   refine hdA 12 ?_
   (try simp only[Act.put,fe7,ff1,ff2])
   refine hdR 15 [] (fun K hK=> ?_) r9.nil
   (go_split_ands;refine ab0 ag8 rfl _ _ rfl rfl hs2 rfl ⟨rfl,hxx.out⟩ (one_cell (by simp[go_sem])) (j4.mono ‹_› al1) (by simp[Enc.M4];omega) (by omega) ?_;intro v' w' q1 q2 q3;have k1:j4 H1 w':=j4.grown ‹_› q2 (by simp);have k2:Below w.heap.size w w':=Below.grown ‹_› q2 (Below.size ‹_›) (by simp))
   refine ag1 hK (fun I7=> ?_)
   clear hK K
   refine hdA 16 ?_
   (try simp only[Act.put,fe7,ff1,ff2])
   refine G9 (by kernel_rfl) ?_
   simp only[ff5,ff6]
   obtain⟨a',c',rfl,_,_⟩:=q1.form
   have hcB:=hc.below k2
   have h2:=(hcB.cell k).trans hv
   have h3:=hcB.fz k
   go_wp2
   go_ret
   have hlt:=hc.lt
   obtain⟨H',hC,hle',hs'⟩:=hcB.close q1 (fh1 hc.x.below.size (by simp)) (fun e=>by have h5:=(q1.lt O e).1;simp at h5;omega)
   rw[ff4,ff7]at hs'
   exact⟨rfl,_,H',hC.set k _,hle',hs'⟩
  exact r9.nil
 refine r9.cons (by simp only[ff0,fe9,fe8]<;>rfl) (fun K hK=> ?_) ?_
 ·go_simp
  refine ag1 hK (fun I4=> ?_)
  clear hK K N9
  (try simp only[Act.put,fe7,ff1,ff2])
  refine hdR 7 [11] (fun K hK=> ?_) ?_
  ·go_simp
   refine ag1 hK (fun F8=> ?_)
   clear hK K I4
   (try simp only[Act.put,fe7,ff1,ff2])
   refine hdR 11 [] (fun K hK=> ?_) r9.nil
   go_simp
   refine ag1 hK (fun F9=> ?_)
   clear hK K F8
   refine hdA 12 ?_
   (try simp only[Act.put,fe7,ff1,ff2])
   refine hdR 15 [] (fun K hK=> ?_) r9.nil
   (go_split_ands;refine ab0 ag8 rfl _ _ rfl rfl hs2 rfl ⟨rfl,hxx.out⟩ (one_cell (by simp[go_sem])) (j4.mono ‹_› al1) (by simp[Enc.M4];omega) (by omega) ?_;intro v' w' q1 q2 q3;have k1:j4 H1 w':=j4.grown ‹_› q2 (by simp);have k2:Below w.heap.size w w':=Below.grown ‹_› q2 (Below.size ‹_›) (by simp))
   refine ag1 hK (fun I7=> ?_)
   clear hK K
   refine hdA 16 ?_
   (try simp only[Act.put,fe7,ff1,ff2])
   refine G9 (by kernel_rfl) ?_
   simp only[ff5,ff6]
   obtain⟨a',c',rfl,_,_⟩:=q1.form
   have hcB:=hc.below k2
   have h2:=(hcB.cell k).trans hv
   have h3:=hcB.fz k
   go_wp2
   go_ret
   have hlt:=hc.lt
   obtain⟨H',hC,hle',hs'⟩:=hcB.close q1 (fh1 hc.x.below.size (by simp)) (fun e=>by have h5:=(q1.lt O e).1;simp at h5;omega)
   rw[ff4,ff7]at hs'
   exact⟨rfl,_,H',hC.set k _,hle',hs'⟩
  refine r9.cons (by simp only[ff0,fe9,fe8]<;>rfl) (fun K hK=> ?_) ?_
  ·go_simp
   refine ag1 hK (fun F8=> ?_)
   clear hK K I4
   (try simp only[Act.put,fe7,ff1,ff2])
   refine hdR 7 [] (fun K hK=> ?_) r9.nil
   go_simp
   refine ag1 hK (fun F9=> ?_)
   clear hK K F8
   refine hdA 12 ?_
   (try simp only[Act.put,fe7,ff1,ff2])
   refine hdR 15 [] (fun K hK=> ?_) r9.nil
   (go_split_ands;refine ab0 ag8 rfl _ _ rfl rfl hs2 rfl ⟨rfl,hxx.out⟩ (one_cell (by simp[go_sem])) (j4.mono ‹_› al1) (by simp[Enc.M4];omega) (by omega) ?_;intro v' w' q1 q2 q3;have k1:j4 H1 w':=j4.grown ‹_› q2 (by simp);have k2:Below w.heap.size w w':=Below.grown ‹_› q2 (Below.size ‹_›) (by simp))
   refine ag1 hK (fun I7=> ?_)
   clear hK K
   refine hdA 16 ?_
   (try simp only[Act.put,fe7,ff1,ff2])
   refine G9 (by kernel_rfl) ?_
   simp only[ff5,ff6]
   obtain⟨a',c',rfl,_,_⟩:=q1.form
   have hcB:=hc.below k2
   have h2:=(hcB.cell k).trans hv
   have h3:=hcB.fz k
   go_wp2
   go_ret
   have hlt:=hc.lt
   obtain⟨H',hC,hle',hs'⟩:=hcB.close q1 (fh1 hc.x.below.size (by simp)) (fun e=>by have h5:=(q1.lt O e).1;simp at h5;omega)
   rw[ff4,ff7]at hs'
   exact⟨rfl,_,H',hC.set k _,hle',hs'⟩
  exact r9.nil
 exact r9.nil
end
section
def aq4 (l:List UInt8):Nat:=l.foldl (fun n b=>n*10+(b.toNat-48)) 0
theorem aP3 (l:List UInt8) (b:UInt8):aq4 (l++[b])=aq4 l*10+(b.toNat-48):=by unfold aq4;rw[List.foldl_append];rfl
theorem ah8 {b:UInt8}:W9 b=true↔48≤b.toNat∧b.toNat≤57:=by unfold W9;simp
theorem bU2 {d:Nat} (h:d<10):(UInt8.ofNat (48+d)).toNat=48+d:=by rw[UInt8.toNat_ofNat'];omega
theorem ad1 {α:Type} {p:List α→Prop} (h0:p []) (h1:∀l a,p l→p (l++[a])) (l:List α):p l:=by
 have key:∀r:List α,p r.reverse:=fun r=>by
  induction r with
  |nil=>exact h0
  |cons a r ih=>rw[List.reverse_cons];exact h1 _ _ ih
 have:=key l.reverse
 rwa [List.reverse_reverse]at this
theorem da7:∀l:List UInt8,l.all W9=true→aA4 l=(aq4 l:Int):=ad1 (fun _=>rfl) fun l b ih h=>by
 rw[List.all_append,fh9]at h
 have hb:W9 b=true:=by simpa using h.2
 have:=ah8.1 hb
 rw[aZ2,aP3,ih h.1]
 omega
theorem ak7 {u:Nat} (h:u<10):Lib.decDigits u=[UInt8.ofNat (48+u)]:=by rw[Lib.decDigits,dif_pos h]
theorem aI5 {u:Nat} (h:¬u<10):Lib.decDigits u=Lib.decDigits (u / 10)++[UInt8.ofNat (48+u%10)]:=by rw[Lib.decDigits,dif_neg h]
theorem aU5 (u:Nat):(Lib.decDigits u).all W9=true:=by
 induction u using Nat.strongRecOn with
 |_ u ih=>
  by_cases h:u<10
  ·rw[ak7 h];simp only[List.all_cons,List.all_nil,Bool.and_true];rw[ah8,bU2 h];omega
  ·rw[aI5 h,List.all_append,ih (u / 10) (by omega)]
   simp only[List.all_cons,List.all_nil,Bool.and_true,Bool.true_and]
   rw[ah8,bU2 (by omega)];omega
theorem bA1 (u:Nat):aq4 (Lib.decDigits u)=u:=by
 induction u using Nat.strongRecOn with
 |_ u ih=>
  by_cases h:u<10
  ·rw[ak7 h];show 0*10+((UInt8.ofNat (48+u)).toNat-48)=u;rw[bU2 h];omega
  ·rw[aI5 h,aP3,ih (u / 10) (by omega),bU2 (by omega)];omega
theorem bt7 (u:Nat):Lib.decDigits u≠[]:=by
 by_cases h:u<10
 ·rw[ak7 h];simp
 ·rw[aI5 h];simp
theorem cl9 (u:Nat) (h:1≤u):(Lib.decDigits u).head?≠some 48:=by
 induction u using Nat.strongRecOn with
 |_ u ih=>
  by_cases g:u<10
  ·rw[ak7 g]
   intro e
   have e2:UInt8.ofNat (48+u)=48:=Option.some.inj e
   have:=congrArg UInt8.toNat e2
   rw[bU2 g]at this
   have h48:(48:UInt8).toNat=48:=rfl
   omega
  ·rw[aI5 g]
   have:=ih (u / 10) (by omega) (by omega)
   cases hd:Lib.decDigits (u / 10)with
   |nil=>exact absurd hd (bt7 _)
   |cons a l=>rw[hd]at this;simpa using this
theorem cm0:∀l:List UInt8,l.all W9=true→l≠[]→l.head?≠some 48→1≤aq4 l:=ad1 (fun _ h=>absurd rfl h) fun l b ih h _ hh=>by
 rw[List.all_append,fh9]at h
 have hb:W9 b=true:=by simpa using h.2
 have hb2:=ah8.1 hb
 rw[aP3]
 cases l with
 |nil=>
  have:b.toNat≠48:=fun e=>hh (by show some b=some 48;rw[show b=48 from UInt8.toNat_inj.1 e])
  show 1≤0*10+_
  omega
 |cons a l=>
  have:=ih h.1 (by simp) (by simpa using hh)
  omega
theorem da8:∀l:List UInt8,l.all W9=true→l≠[]→(l.length=1∨l.head?≠some 48)→Lib.decDigits (aq4 l)=l:=ad1 (fun _ h=>absurd rfl h) fun l b ih h _ hh=>by
 rw[List.all_append,fh9]at h
 have hb:W9 b=true:=by simpa using h.2
 have hb2:=ah8.1 hb
 have hbe:UInt8.ofNat (48+(b.toNat-48))=b:=by
  apply UInt8.toNat_inj.1
  rw[bU2 (by omega)];omega
 rw[aP3]
 cases l with
 |nil=>
  show Lib.decDigits (0*10+(b.toNat-48))=[b]
  rw[Nat.zero_mul,Nat.zero_add,ak7 (by omega),hbe]
 |cons a l=>
  have hhd:(a::l).head?≠some 48:=by
   rcases hh with hh|hh
   ·simp at hh
   ·simpa using hh
  have hp:=cm0 (a::l) h.1 (by simp) hhd
  rw[aI5 (by omega),show((aq4 (a::l))*10+(b.toNat-48)) / 10=aq4 (a::l)by omega,show((aq4 (a::l))*10+(b.toNat-48))%10=b.toNat-48 by omega,hbe,ih h.1 (by simp) (.inr hhd)]
def ar2 (l:List UInt8):List UInt8:=match l with
 |45::r=>r
 |r=>r
theorem aB6 {l:List UInt8} {neg:Bool} {v:Int} (h:am9 l neg=some v):l.all W9=true∧l≠[]∧l.length≤6∧(l.length=1∨l.head?≠some 48)∧(neg=true→l.head?≠some 48)∧v=if neg then-(aq4 l:Int)else(aq4 l:Int):=by
 unfold am9 at h
 split at h
 ·cases h
 ·rename_i g
  split at h
  ·rename_i g2
   have e:=Option.some.inj h
   rw[da7 l g2]at e
   have g3:¬l.length<1∧¬6<l.length∧¬(l.head?=some 48∧(1<l.length∨neg=true)):=⟨fun h=>g (.inl h),fun h=>g (.inr (.inl h)),fun h=>g (.inr (.inr h))⟩
   refine⟨g2,fun e2=>by rw[e2]at g3;exact g3.1 (by decide),by omega, ?_,fun hn hh=>g3.2.2 ⟨hh,.inr hn⟩,e.symm⟩
   by_cases h1:l.length=1
   ·exact .inl h1
   ·exact .inr fun hh=>g3.2.2 ⟨hh,.inl (by omega)⟩
  ·cases h
theorem cF4 {l:List UInt8} {neg:Bool} (hd:l.all W9=true) (hn:l≠[]) (h6:l.length≤6) (h1:l.length=1∨l.head?≠some 48) (h2:neg=true→l.head?≠some 48):am9 l neg=some (if neg then-(aq4 l:Int)else(aq4 l:Int)):=by
 unfold am9
 have hl:1≤l.length:=List.length_pos_iff.2 hn
 rw[if_neg,if_pos hd,da7 l hd]
 rintro(h|h|⟨h,h3⟩)
 ·omega
 ·omega
 ·rcases h3 with h3|h3
  ·rcases h1 with h1|h1
   ·omega
   ·exact h1 h
  ·exact h2 h3 h
theorem cm1 {u:Nat}:(Lib.decDigits u).length=1∨(Lib.decDigits u).head?≠some 48:=by
 by_cases h:u<10
 ·rw[ak7 h];exact .inl rfl
 ·exact .inr (cl9 u (by omega))
theorem cm2 (u:Nat):(Lib.decDigits u).head?≠some 45:=fun e=>by
 cases hd:Lib.decDigits u with
 |nil=>exact absurd hd (bt7 u)
 |cons a l=>
  rw[hd]at e
  have:=List.all_eq_true.1 (aU5 u) a (by rw[hd];simp)
  have h2:=ah8.1 this
  have h3:a=45:=Option.some.inj e
  rw[h3]at h2
  have:(45:UInt8).toNat=45:=rfl
  omega
theorem dn8 {w:ByteArray} {v:Int} (h:O5 w=some v):C8 w=Lib.itoa v∧(ar2 (C8 w)).length≤6:=by
 unfold O5 at h
 unfold Lib.itoa ar2
 split at h
 ·rename_i r hr
  rw[hr]
  obtain⟨h1,h2,h3,h4,h5,h6⟩:=aB6 h
  have hp:=cm0 r h1 h2 (h5 rfl)
  have e:v= -(aq4 r:Int):=h6
  rw[if_pos (by omega),show v.natAbs=aq4 r by omega,da8 r h1 h2 h4]
  exact⟨rfl,h3⟩
 ·rename_i hno
  obtain⟨h1,h2,h3,h4,h5,h6⟩:=aB6 h
  have e:v=(aq4 (C8 w):Int):=h6
  rw[if_neg (by omega),show v.toNat=aq4 (C8 w)by omega,da8 _ h1 h2 h4]
  refine⟨rfl, ?_⟩
  split
  ·rename_i r hr;exact absurd hr (hno r)
  ·exact h3
theorem cm3 {w:ByteArray} {v:Int} (h:C8 w=Lib.itoa v) (h6:(ar2 (C8 w)).length≤6):O5 w=some v:=by
 unfold O5
 unfold Lib.itoa at h
 by_cases hv:v<0
 ·rw[if_pos hv]at h
  rw[h]at h6 ⊢
  have h5:(Lib.decDigits v.natAbs).length≤6:=h6
  show am9 (Lib.decDigits v.natAbs) true=some v
  rw[cF4 (aU5 _) (bt7 _) h5 cm1 (fun _=>cl9 _ (by omega)),bA1]
  show some (-((v.natAbs:Nat):Int))=some v
  congr 1
  omega
 ·rw[if_neg hv]at h
  have hne:=cm2 v.toNat
  rw[h]at h6 ⊢
  have key:∀l:List UInt8,l.head?≠some 45→ar2 l=l∧(match l with|45::r=>am9 r true|r=>am9 r false)=am9 l false:=fun l hl=>by
   unfold ar2
   split
   ·rename_i r;exact absurd rfl hl
   ·exact⟨rfl,rfl⟩
  obtain⟨k1,k2⟩:=key _ hne
  rw[k1]at h6
  have k3:am9 (Lib.decDigits v.toNat) false=some v:=by
   rw[cF4 (aU5 _) (bt7 _) h6 cm1 (fun h=>by cases h),bA1]
   show some ((v.toNat:Nat):Int)=some v
   congr 1
   omega
  exact k2.trans k3
end
section
theorem cf5 (o p:List (List UInt8)) (b:UInt8) (h:p≠[]):U7 (o++p) b=o++U7 p b:=by
 unfold U7
 split
 ·rw[List.append_assoc]
 ·rw[List.dropLast_append_of_ne_nil h,List.append_assoc]
  congr 2
  cases p with
  |nil=>exact absurd rfl h
  |cons a p=>
   congr 2
   rw[List.getLastD_eq_getLast?,List.getLastD_eq_getLast?,List.getLast?_append,List.getLast?_eq_some_getLast h]
   rfl
theorem cz0 (o:List (List UInt8)) (s:List UInt8):∀p:List (List UInt8),p≠[]→s.foldl U7 (o++p)=o++s.foldl U7 p:=by
 induction s with
 |nil=>intro p _;rfl
 |cons b s ih=>intro p h;rw[List.foldl_cons,List.foldl_cons,cf5 o p b h,ih _ (bs7 p b)]
theorem bi7 (a b:List UInt8):R9 (a++32::b)=R9 a++R9 b:=by
 unfold R9
 rw[List.foldl_append,List.foldl_cons]
 have e:U7 (a.foldl U7 [[]]) 32=a.foldl U7 [[]]++[[]]:=by unfold U7;rw[if_pos rfl]
 rw[e,cz0 _ _ [[]] (by simp)]
theorem aF1 {a:List UInt8} (h:∀b∈a,b≠32):R9 a=[a]:=by
 have key:∀r:List UInt8,(∀b∈r,b≠32)→R9 r.reverse=[r.reverse]:=fun r=>by
  induction r with
  |nil=>intro _;rfl
  |cons b r ih=>
   intro h
   rw[List.reverse_cons,ap3,ih fun x hx=>h x (by simp[hx])]
   unfold U7
   rw[if_neg (h b (by simp))]
   rfl
 have:=key a.reverse fun b hb=>h b (by simpa using hb)
 rwa [List.reverse_reverse]at this
end
section
def dN9 (p:List F7 × List F7) (x:F7):List F7 × List F7:=(p.1++[x],ak4 p.1 p.2 x)
def bi8 (l:List F7):List F7 × List F7:=l.foldl dN9 ([],[])
def aa4 (l:List F7):List F7:=(bi8 l).2
theorem ca1 (l:List F7) (x:F7):bi8 (l++[x])=dN9 (bi8 l) x:=by unfold bi8;rw[List.foldl_append];rfl
theorem dn9:∀l:List F7,(bi8 l).1=l:=ad1 rfl fun l x ih=>by rw[ca1];show(bi8 l).1++[x]=_;rw[ih]
theorem aD5 (l:List F7) (x:F7):aa4 (l++[x])=ak4 l (aa4 l) x:=by
 show(bi8 (l++[x])).2=_
 rw[ca1]
 show ak4 (bi8 l).1 (bi8 l).2 x=_
 rw[dn9];rfl
theorem bt8:∀l:List F7,(aa4 l).length=l.length:=ad1 rfl fun l x ih=>by rw[aD5,bC9,ih];simp
theorem aU6 (t:D5):∀l:List ByteArray,(M6 t l).written=l.map A8∧(M6 t l).now=aa4 (l.map A8):=ad1 ⟨rfl,rfl⟩ fun l s ih=>by
 rw[aP2,List.map_append,List.map_singleton,aD5]
 unfold bz9
 exact⟨by show(M6 t l).written++_=_;rw[ih.1],by show ak4 (M6 t l).written (M6 t l).now _=_;rw[ih.1,ih.2]⟩
def aZ9 (t:D5):List F7→List ByteArray
 |[]=>[]
 |x::l=>(if(M8 t x).2 then [x.text]else [])++aZ9 (M8 t x).1 l
theorem cz1 (x:F7) (now:List F7) (b:Bool) (h:List Bool) (k:Nat):bf0 (x::now) (b::h) (k+1)=(if b then [x.text]else [])++bf0 now h k:=by
 unfold bf0
 rw[List.range_succ_eq_map,List.filter_cons]
 have e:((List.map Nat.succ (List.range k)).filter fun i=>(b::h).getD i false)=((List.range k).filter fun i=>h.getD i false).map Nat.succ:=by
  rw[List.filter_map];rfl
 rw[e]
 cases b
 ·show List.map _ (List.map Nat.succ _)=_
  rw[List.map_map];rfl
 ·show List.map _ (0::List.map Nat.succ _)=_
  rw[List.map_cons,List.map_map];rfl
theorem do0 (t:D5) (now:List F7):bK9 t now=aZ9 t now:=by
 unfold bK9
 induction now generalizing t with
 |nil=>rfl
 |cons x l ih=>
  show bf0 (x::l) ((M8 t x).2::O3 (M8 t x).1 l) (l.length+1)=_
  rw[cz1,ih];rfl
theorem cz2 (t:D5) (l m:List F7):O3 t (l++m)=O3 t l++O3 (Z5 t l) m:=by
 induction l generalizing t with
 |nil=>rfl
 |cons x l ih=>show _::O3 _ (l++m)=_;rw[ih];rfl
theorem bi9 {t:D5} {x:F7} (h:x.kind≠1):M8 t x=(t,false):=by unfold M8;rw[if_neg h]
theorem aG4 {t:D5} (v:F6 t=true) (w:ByteArray) (a:List Int):F6 (changed t w a).1=true:=by
 unfold changed
 split
 ·split
  ·assumption
  ·exact v
 ·exact v
theorem cM5 {t:D5} (v:F6 t=true) (x:F7):F6 (M8 t x).1=true:=by
 unfold M8
 split
 ·exact aG4 v _ _
 ·exact v
theorem cm4 {t:D5} (v:F6 t=true) (l:List F7):F6 (Z5 t l)=true:=by
 induction l generalizing t with
 |nil=>exact v
 |cons x l ih=>exact ih (cM5 v x)
theorem db0 (t:D5) (l:List F7):(aZ9 t l).length≤l.length:=by
 induction l generalizing t with
 |nil=>exact fh0 _
 |cons x l ih=>
  have:=ih (M8 t x).1
  unfold aZ9
  rw[ff4,ff8]
  split<;>simp<;>omega
def joinL:List (List UInt8)→List UInt8
 |[]=>[]
 |[a]=>a
 |a::b::l=>a++32::joinL (b::l)
theorem aS8:∀(o:List (List UInt8)) (w:List UInt8),joinL (o++[w])=if o=[]then w else joinL o++32::w
 |[],w=>rfl
 |[a],w=>rfl
 |a::b::l,w=>by
  have ih:=aS8 (b::l) w
  show a++32::joinL (b::l++[w])=_
  rw[ih,if_neg (by simp),if_neg (by simp)]
  show _=(a++32::joinL (b::l))++32::w
  rw[List.append_assoc];rfl
theorem cm5 (l:List ByteArray):∀k,k≤l.length→ah6 l k=joinL ((l.take k).map C8)
 |0,_=>rfl
 |k+1,hk=>by
  have hl:k<l.length:=hk
  rw[aE8,cm5 l k (by omega),List.take_succ_eq_append_getElem hl,List.map_append,List.map_singleton,aS8]
  have e:l.getD k ⟨#[]⟩=l[k]:=by rw[ff3,fg0 hl];rfl
  rw[e]
  by_cases h0:k=0
  ·subst h0;rfl
  ·have hn:(l.take k).map C8≠[]:=fun h=>by
    have:=congrArg List.length h
    rw[fg5,fg6,fg1]at this
    omega
   rw[if_neg h0,if_neg hn]
   rfl
theorem aU7 (l:List ByteArray):J9 l=J8 (joinL (l.map C8)):=by
 unfold J9
 rw[cm5 l l.length (fh0 _),List.take_length]
theorem cz3:∀s:List UInt8,joinL (R9 s)=s:=ad1 rfl fun s b ih=>by
 rw[ap3]
 have hne:=aB3 s
 unfold U7
 split
 ·rename_i hb
  rw[aS8,if_neg hne,ih,hb]
 ·obtain⟨o,w,how⟩:∃o w,R9 s=o++[w]:=⟨(R9 s).dropLast,(R9 s).getLast hne,(List.dropLast_concat_getLast hne).symm⟩
  rw[how]at ih ⊢
  rw[List.dropLast_concat,List.getLastD_eq_getLast?,List.getLast?_concat]
  rw[aS8]at ih ⊢
  split
  ·rename_i h0;rw[if_pos h0]at ih;show w++[b]=_;rw[ih]
  ·rename_i h0
   rw[if_neg h0]at ih
   show joinL o++32::(w++[b])=_
   rw[←ih,List.append_assoc];rfl
theorem ay1 (s:ByteArray):J9 (C9 s)=s:=by
 rw[aU7]
 unfold C9
 rw[List.map_map,show(C8 ∘ J8)=id from funext fun _=>rfl,List.map_id,cz3]
 rfl
theorem bd6 (p:List ByteArray):(A7 p).kind=0∨(A7 p).kind=1∨(A7 p).kind=2:=by
 unfold A7
 split
 ·exact .inl rfl
 ·split
  ·exact .inr (.inl rfl)
  ·split
   ·exact .inr (.inr rfl)
   ·exact .inl rfl
theorem bd7 {p:List ByteArray} (h:(A7 p).kind=0):A7 p=E9:=by
 unfold A7 at*
 cases e:T9 p.tail with
 |none=>rfl
 |some ns=>
  rw[e]at h
  simp only at h ⊢
  split at h
  ·cases h
  ·rename_i h1
   split at h
   ·cases h
   ·rename_i h2;rw[if_neg h1,if_neg h2]
theorem av0 {p:List ByteArray} (h:(A7 p).kind≠0):(A7 p).text=J9 p∧(A7 p).of=0∧(A7 p).word=p.headD ⟨#[]⟩:=by
 unfold A7 at*
 cases e:T9 p.tail with
 |none=>rw[e]at h;exact absurd rfl h
 |some ns=>
  rw[e]at h
  simp only at h ⊢
  split at h
  ·rename_i h1;rw[if_pos h1];exact⟨rfl,rfl,rfl⟩
  ·rename_i h1
   split at h
   ·rename_i h2;rw[if_neg h1,if_pos h2];exact⟨rfl,rfl,rfl⟩
   ·exact absurd rfl h
theorem bd8 {p:List ByteArray} (h:(A7 p).kind≠0):ac8 p=A7 p:=by unfold ac8;rw[if_pos h]
theorem cM7 {p:List ByteArray} (h:(A7 p).kind=0):(ac8 p).kind=0∨(ac8 p).kind=3∨(ac8 p).kind=4∨(ac8 p).kind=5∨(ac8 p).kind=6:=by
 unfold ac8
 rw[if_neg (by rw[h];decide)]
 repeat' split
 all_goals first
  |exact .inl rfl
  |exact .inr (.inl rfl)
  |exact .inr (.inr (.inl rfl))
  |exact .inr (.inr (.inr (.inl rfl)))
  |exact .inr (.inr (.inr (.inr rfl)))
theorem bH4 {p:List ByteArray} (h:(ac8 p).kind=1∨(ac8 p).kind=2):ac8 p=A7 p:=by
 rcases bd6 p with h0|h0
 ·have:=cM7 h0;omega
 ·exact bd8 (by omega)
theorem ca2 {s:ByteArray} (h:(A8 s).kind=1∨(A8 s).kind=2):(A8 s).text=s∧(A8 s).of=0:=by
 have e:A8 s=A7 (C9 s):=bH4 h
 rw[e]at h ⊢
 obtain⟨h1,h2,_⟩:=av0 (p:=C9 s) (by omega)
 exact⟨by rw[h1,ay1],h2⟩
end
section
theorem aI6 (u:Nat):∀k,u<10 ^ (k+1)→(Lib.decDigits u).length≤k+1:=by
 induction u using Nat.strongRecOn with
 |_ u ih=>
  intro k h
  by_cases g:u<10
  ·rw[ak7 g];simp
  ·rw[aI5 g,ff4]
   cases k with
   |zero=>simp at h;omega
   |succ k=>
    have h2:u / 10<10 ^ (k+1):=by rw[Nat.pow_succ]at h;omega
    have h3:=ih (u / 10) (by omega) k h2
    simp only[ff8,fg1]
    omega
def ch3 (n:Int) (e:ByteArray):ByteArray:=J8 ([108,105,110,101,32]++C8 (G6 n)++[32,105,115,32]++C8 e)
theorem aN9 {p:List ByteArray} (h:T9 p.tail=none):A7 p=E9:=by unfold A7;rw[h]
def av1 (x:F7):F7:=if x.kind=5 then⟨1,0,x.word,x.text,x.nums⟩else E9
theorem dH1 {x:F7} {n:Int} (hk:x.kind=1) (ho:x.of=0):av1 {x with kind:=5,of:=n}=x:=by
 unfold av1
 cases x
 simp only at hk ho
 subst hk;subst ho
 rfl
theorem bo6 (now:List F7) (x:F7):ao6 now x=now.set x.of.toNat (av1 x):=rfl
theorem aI8 {t:D5} {l:List ByteArray} (v:F6 t=true) (h:l.length≤24):aJ8 t l=0:=by unfold aJ8;rw[if_pos v,if_neg (by omega)]
theorem aK0 {t:D5} {l:List ByteArray} (v:F6 t=true) (h:l.length≤24):V5 t l=Z5 t (aa4 (l.map A8)):=by unfold V5;rw[if_pos (aI8 v h),(aU6 t l).2]
theorem aS9 {t:D5} {l:List ByteArray} (v:F6 t=true) (h:l.length≤24):O0 t l=aZ9 t (aa4 (l.map A8)):=by unfold O0;rw[if_pos (aI8 v h),(aU6 t l).2,do0]
theorem ap6 {t:D5} {l:List ByteArray} (v:F6 t=true) (h:l.length≤24):Y1 t l=(M6 t l).ans:=by unfold Y1;rw[if_pos (aI8 v h)]
end
section
theorem dH3 {p:List ByteArray} (h:(ac8 p).kind=5):∃a b c e,p=a::b::c::e∧e≠[]∧(A7 e).kind=1∧ac8 p={A7 e with kind:=5,of:=(ac8 p).of}:=by
 have h0:(A7 p).kind=0:=by
  rcases bd6 p with h0|h0
  ·exact h0
  ·rw[bd8 (by omega)]at h;omega
 unfold ac8 at h ⊢
 rw[if_neg (by rw[h0];decide)]at h ⊢
 split at h
 ·rename_i w nw rest
  split at h
  ·cases h
  ·rename_i n hn
   simp only
   split at h
   ·split at h<;>cases h
   ·rename_i g1
    split at h
    ·split at h<;>cases h
    ·rename_i g2
     split at h
     ·rename_i g3
      split at h
      ·rename_i is e
       split at h
       ·cases h
       ·rename_i g4
        split at h
        ·cases h
        ·rename_i g5
         split at h
         ·rename_i g6
          refine⟨w,nw,is,e,rfl,fun he=>g4 (.inl he),g6, ?_⟩
          rw[if_neg g1,if_neg g2,if_pos g3,if_neg g4,if_neg g5,if_pos g6]
         ·cases h
      ·cases h
     ·cases h
 ·cases h
theorem db7 {x:F7} (h:x.kind=5):av1 x=⟨1,0,x.word,x.text,x.nums⟩:=by unfold av1;rw[if_pos h]
theorem bU3 {x:F7} (h:x.kind≠5):av1 x=E9:=by unfold av1;rw[if_neg h]
theorem ca3 {s:ByteArray} (h:(A8 s).kind=5):∃a b c e,C9 s=a::b::c::e∧e≠[]∧(A7 e).kind=1∧av1 (A8 s)=A7 e:=by
 obtain⟨a,b,c,e,h1,h2,h3,h4⟩:=dH3 (p:=C9 s) h
 refine⟨a,b,c,e,h1,h2,h3, ?_⟩
 have h5:A8 s={A7 e with kind:=5,of:=(ac8 (C9 s)).of}:=h4
 have ho:=(av0 (p:=e) (by omega)).2.1
 rw[db7 h,h5]
 generalize A7 e=z at h3 ho ⊢
 obtain⟨k,o,w,t,ns⟩:=z
 simp only at h3 ho ⊢
 rw[h3,ho]
theorem cF5 {p:F7→Prop} {l:List F7} (h0:p E9) (h1:∀x∈l,x.kind=1→p x) (h2:∀x∈l,p (av1 x)):∀x∈aa4 l,p x:=by
 revert h1 h2
 refine ad1 (p:=fun l=>(∀x∈l,x.kind=1→p x)→(∀x∈l,p (av1 x))→∀x∈aa4 l,p x) (fun _ _ x hx=>by cases hx) (fun l y ih h1 h2=> ?_) l
 have ih2:=ih (fun x hx=>h1 x (by simp[hx])) (fun x hx=>h2 x (by simp[hx]))
 intro x hx
 rw[aD5]at hx
 unfold ak4 at hx
 split at hx
 ·rename_i hk
  rcases List.mem_append.1 hx with hx|hx
  ·exact ih2 x hx
  ·have:x=y:=by simpa using hx
   subst this;exact h1 x (by simp) hk
 ·split at hx
  ·rcases List.mem_append.1 hx with hx|hx
   ·rw[bo6]at hx
    rcases List.mem_or_eq_of_mem_set hx with hx|rfl
    ·exact ih2 x hx
    ·exact h2 y (by simp)
   ·have:x=E9:=by simpa using hx
    subst this;exact h0
  ·rcases List.mem_append.1 hx with hx|hx
   ·exact ih2 x hx
   ·have:x=E9:=by simpa using hx
    subst this;exact h0
theorem bj1 (t:D5) (l:List ByteArray) (s:ByteArray):(M6 t (l++[s])).ans=(M6 t l).ans++[ap9 t (l.map A8) (aa4 (l.map A8)) (A8 s)]:=by
 rw[aP2]
 unfold bz9
 rw[(aU6 t l).1,(aU6 t l).2]
def aT0 (x:F7):Bool:=decide (x.word=Z0)
theorem cN1 (a:List UInt8) (l:List (List UInt8)):(joinL l).length≤(joinL (a::l)).length:=by
 cases l with
 |nil=>exact fh3 _
 |cons b l=>show _≤(a++32::joinL (b::l)).length;rw[ff4,ff8];omega
theorem N7 (a:ByteArray) (l:List ByteArray):(J9 l).size≤(J9 (a::l)).size:=by
 rw[aU7,aU7]
 exact cN1 (C8 a) (l.map C8)
theorem do5 (s:ByteArray):(av1 (A8 s)).text.size≤s.size:=by
 by_cases h:(A8 s).kind=5
 ·obtain⟨a,b,c,e,h1,h2,h3,h4⟩:=ca3 h
  rw[h4,(av0 (p:=e) (by omega)).1]
  have h5:=ay1 s
  rw[h1]at h5
  rw[←h5]
  exact fh1 (N7 c e) (fh1 (N7 b _) (N7 a _))
 ·rw[bU3 h];exact fh3 _
theorem bH5 {l:List ByteArray} {n:Nat} (h:∀s∈l,s.size≤n):∀x∈aa4 (l.map A8),x.text.size≤n:=cF5 (fh3 _) (fun x hx hk=>by
 obtain⟨s,hs,rfl⟩:=List.mem_map.1 hx
 rw[(ca2 (.inl hk)).1];exact h s hs) fun x hx=>by
 obtain⟨s,hs,rfl⟩:=List.mem_map.1 hx
 exact fh1 (do5 s) (h s hs)
def aK1 (l:List ByteArray):Nat:=(l.map A8).countP aT0
end
end Go.Proofs.YtbliehinagkldaaGreatDoor
