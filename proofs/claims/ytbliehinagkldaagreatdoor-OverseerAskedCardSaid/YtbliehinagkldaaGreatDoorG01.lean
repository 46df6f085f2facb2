/- Lemmas and walks on which the claims of this seat lean (names and blanks made short by a program): Plain Rank NHuf OPlain Base Data Ref4a Ref4e Tr4 Bits Copy2 Same. -/
import Derived.Test.YtbliehinagkldaaGreatDoorRows
import Derived.WalkKit
import Derived.WalkSpells
import Derived.WalkLawsBesides
import Derived.Maps.AppendAt
import Derived.Lib.Hide
import Derived.Deep.QuietTactic
import Derived.BigQuiet
import Derived.Deep.RegionHeld3
import Derived.Deep.DeepCutAuto
import Derived.Test.YtbliehinagkldaaGreatDoorProg

set_option linter.all false
set_option maxRecDepth 100000
set_option maxHeartbeats 16000000
open Go.Lib renaming hid → fe6
open List renaming getD_eq_getElem?_getD → ff3, length_append → ff4, drop_zero → ff6, length_cons → ff8, getElem?_eq_getElem → fg0, cons_append → fg2, length_map → fg5, length_take → fg6, take_of_length_le → fg7
open Nat renaming le_refl → fh0, le_trans → fh1, zero_le → fh3, lt_of_lt_of_le → fh4
open Int renaming toNat_natCast → fh8
open Bool renaming and_eq_true → fh9
namespace Go.Proofs.YtbliehinagkldaaGreatDoor
section
section
variable {α:Type}
def At (xs:List α) (k:Nat) (x:α):Prop:=xs[k]? =some x
theorem At.lt {xs:List α} {k:Nat} {x:α} (h:At xs k x):k<xs.length:=(List.getElem?_eq_some_iff.1 h).1
theorem At.mk {xs:List α} {k:Nat} (h:k<xs.length):∃x,At xs k x:=⟨xs[k],fg0 h⟩
theorem At.uniq {xs:List α} {k:Nat} {x y:α} (h:At xs k x) (h':At xs k y):x=y:=Option.some.inj (h.symm.trans h')
theorem At.mem {xs:List α} {k:Nat} {x:α} (h:At xs k x):x∈xs:=List.mem_of_getElem? h
theorem At.get {xs:List α} {k:Nat} {x:α} (h:At xs k x):∃hk:k<xs.length,xs[k]=x:=List.getElem?_eq_some_iff.1 h
theorem At.take {xs:List α} {k:Nat} {x:α} (h:At xs k x):xs.take (k+1)=xs.take k++[x]:=by
 obtain⟨hk,rfl⟩:=h.get
 rw[List.take_succ_eq_append_getElem hk]
def ao4 (p:α→Bool) (xs:List α) (k:Nat):Prop:=(xs.take k).all p=true
theorem ao4.zero (p:α→Bool) (xs:List α):ao4 p xs 0:=by simp[ao4]
theorem ao4.succ {p:α→Bool} {xs:List α} {k:Nat} {x:α} (h:ao4 p xs k) (hx:At xs k x) (hp:p x=true):ao4 p xs (k+1):=by
 unfold ao4 at*
 rw[hx.take,List.all_append,h]
 simp[hp]
theorem ao4.all {p:α→Bool} {xs:List α} {k:Nat} (h:ao4 p xs k) (hk:xs.length≤k):xs.all p=true:=by
 unfold ao4 at h;rwa [fg7 hk]at h
theorem At.az5 {p:α→Bool} {xs:List α} {k:Nat} {x:α} (hx:At xs k x) (hp:p x=false):xs.all p=false:=by
 rw[List.all_eq_false]
 exact⟨x,hx.mem,by simp[hp]⟩
theorem aq1 {xs:List α} {k:Nat} (h:xs.length≤k):xs.take k=xs:=fg7 h
end
end
section
structure ah4 where
 r:Int
 p:Int
 s:Int
 deriving DecidableEq,Inhabited
structure ar8 where
 t:Int
 h:Int
 e:Int
 deriving DecidableEq,Inhabited
structure A9 where
 ms:List ah4
 bs:List ar8
 ts:List Int
 ch:Int
 deriving DecidableEq,Inhabited
def within (n lo hi:Int):Bool:=decide (lo≤n)&&decide (n≤hi)
def ao1 (m:ah4):Bool:=within m.r 0 99&&within m.p 1 9&&within m.s 0 1
def al7 (nt:Nat) (b:ar8):Bool:=within b.t 0 ((nt:Int)-1)&&within b.h 1 9&&within b.e 0 3
def aq2 (b:Bool):Int:=if b then 0 else 40
def valid (h:A9):Bool:=
 within h.ms.length 1 3&&decide (h.ts.length≤4)&&decide (h.bs.length≤5)&&within h.ch 0 9&&
 h.ms.all ao1&&h.ts.all (fun t=>within t 0 99)&&h.bs.all (al7 h.ts.length)
theorem within_iff {n lo hi:Int}:within n lo hi=true↔lo≤n∧n≤hi:=by simp[within]
structure Valid (h:A9):Prop where
 m1:1≤h.ms.length
 m3:h.ms.length≤3
 t4:h.ts.length≤4
 b5:h.bs.length≤5
 ch:within h.ch 0 9=true
 ms:h.ms.all ao1=true
 ts:h.ts.all (fun t=>within t 0 99)=true
 bs:h.bs.all (al7 h.ts.length)=true
theorem ad3 {h:A9}:valid h=true↔Valid h:=by
 unfold valid
 simp only[fh9,within_iff,decide_eq_true_eq]
 constructor
 ·rintro⟨⟨⟨⟨⟨⟨⟨a,b⟩,c⟩,d⟩,e⟩,f⟩,g⟩,i⟩
  exact⟨by omega,by omega,c,d,within_iff.2 e,f,g,i⟩
 ·rintro⟨a,b,c,d,e,f,g,i⟩
  exact⟨⟨⟨⟨⟨⟨⟨by omega,by omega⟩,c⟩,d⟩,within_iff.1 e⟩,f⟩,g⟩,i⟩
theorem aw1 {h:A9} (k:¬Valid h):aq2 (valid h)=40:=by
 have:valid h=false:=by
  cases hv:valid h with
  |false=>rfl
  |true=>exact absurd (ad3.1 hv) k
 rw[this];rfl
theorem ci5 {h:A9} (k:Valid h):aq2 (valid h)=0:=by rw[ad3.2 k];rfl
def bG8 (v is:Bool):Int:=if v then(if is then 0 else 1)else 40
def aD2 (nb:Nat) (l:List Int):Bool:=l.all (fun b=>within b 0 ((nb:Int)-1))&&decide l.Nodup
def aa8 (h:A9) (plan:List (List Int)):Bool:=decide (plan.length=h.ms.length)&&aD2 h.bs.length plan.flatten
theorem au5 {nb:Nat} {l:List Int}:aD2 nb l=true↔(∀b∈l,0≤b∧b≤(nb:Int)-1)∧l.Nodup:=by
 simp[aD2,within]
theorem cx2 (nb:Nat):aD2 nb []=true:=by simp[aD2]
theorem ci6 {nb:Nat} {l:List Int} {b:Int} (h:aD2 nb l=true) (hb:within b 0 ((nb:Int)-1)=true) (hn:b ∉ l):aD2 nb (l++[b])=true:=by
 rw[au5]at*
 refine⟨fun x hx=> ?_, ?_⟩
 ·rcases List.mem_append.1 hx with hx|hx
  ·exact h.1 x hx
  ·rw[List.mem_singleton.1 hx];exact within_iff.1 hb
 ·rw[List.nodup_append]
  exact⟨h.2,by simp,fun x hx y hy=>by rw[List.mem_singleton.1 hy];exact fun e=>hn (e ▸ hx)⟩
theorem At.split {α:Type} {xs:List α} {k:Nat} {x:α} (h:At xs k x):xs=xs.take k++x::xs.drop (k+1):=by
 obtain⟨hk,rfl⟩:=h.get
 rw[←List.drop_eq_getElem_cons hk,List.take_append_drop]
def aw2 (h:A9) (m:Nat):ah4:=h.ms.getD m default
def X9 (h:A9) (b:Int):ar8:=h.bs.getD b.toNat default
theorem At.aw2 {h:A9} {m:Nat} {x:ah4} (k:At h.ms m x):aw2 h m=x:=by
 unfold Go.Proofs.YtbliehinagkldaaGreatDoor.aw2;rw[ff3,show h.ms[m]? =some x from k];rfl
theorem At.X9 {h:A9} {b:Nat} {x:ar8} (k:At h.bs b x):X9 h (b:Int)=x:=by
 unfold Go.Proofs.YtbliehinagkldaaGreatDoor.X9;rw[ff3,fh8,show h.bs[b]? =some x from k];rfl
def stepT (h:A9) (mc:ah4) (now:Int) (prev:Option Int) (b:Int):Int:=
 now+(if prev.any (fun e=>e != (X9 h b).e)then h.ch else 0)+(X9 h b).h*mc.p
def al3 (h:A9) (mc:ah4):List Int→(List Int × Int × Option Int)→(List Int × Int × Option Int)
 |[],s=>s
 |b::l,(ts,now,prev)=>al3 h mc l (ts.set b.toNat (stepT h mc now prev b),stepT h mc now prev b,some (X9 h b).e)
def bz3 (h:A9) (mc:ah4) (l:List Int) (ts:List Int):List Int:=(al3 h mc l (ts,mc.r,none)).1
def ah5 (h:A9):Nat→List (List Int)→List Int→List Int
 |_,[],ts=>ts
 |m,l::plan,ts=>ah5 h (m+1) plan (bz3 h (aw2 h m) l ts)
def aw3 (h:A9) (plan:List (List Int)):List Int:=ah5 h 0 plan (List.replicate h.bs.length (-1))
theorem br6 (h:A9) (mc:ah4):∀(l r:List Int) (s:List Int × Int × Option Int),al3 h mc (l++r) s=al3 h mc r (al3 h mc l s)
 |[],_,_=>rfl
 |b::l,r,(ts,now,prev)=>by simp only[fg2,al3];exact br6 h mc l r _
theorem cK4 {h:A9} {mc:ah4} {l:List Int} {k:Nat} {b:Int} (hb:At l k b) (s:List Int × Int × Option Int):
 al3 h mc (l.take (k+1)) s=((al3 h mc (l.take k) s).1.set b.toNat (stepT h mc (al3 h mc (l.take k) s).2.1 (al3 h mc (l.take k) s).2.2 b),stepT h mc (al3 h mc (l.take k) s).2.1 (al3 h mc (l.take k) s).2.2 b,some (X9 h b).e):=by
 rw[hb.take,br6];rfl
theorem be5 (h:A9):∀(p q:List (List Int)) (m:Nat) (ts:List Int),ah5 h m (p++q) ts=ah5 h (m+p.length) q (ah5 h m p ts)
 |[],_,_,_=>rfl
 |l::p,q,m,ts=>by simp only[fg2,ah5,ff8];rw[be5 h p q];congr 1;omega
theorem ci7 {h:A9} {plan:List (List Int)} {m:Nat} {l:List Int} (hl:At plan m l) (ts:List Int):ah5 h 0 (plan.take (m+1)) ts=bz3 h (aw2 h m) l (ah5 h 0 (plan.take m) ts):=by
 rw[hl.take,be5,fg6,Nat.min_eq_left (Nat.le_of_lt hl.lt),Nat.zero_add];rfl
theorem aY6 (h:A9) (mc:ah4):∀(l:List Int) (s:List Int × Int × Option Int),(al3 h mc l s).1.length=s.1.length
 |[],_=>rfl
 |b::l,(ts,now,prev)=>by simp only[al3];rw[aY6 h mc l];simp
theorem aE5 (h:A9):∀(plan:List (List Int)) (m:Nat) (ts:List Int),(ah5 h m plan ts).length=ts.length
 |[],_,_=>rfl
 |l::plan,m,ts=>by simp only[ah5];rw[aE5 h plan];simp[bz3,aY6]
theorem bC0 (h:A9) (plan:List (List Int)):(aw3 h plan).length=h.bs.length:=by simp[aw3,aE5]
theorem dm0 {h:A9} (hv:Valid h) {m:Nat} {mc:ah4} (hm:At h.ms m mc) {b:Nat} (hb:b<h.bs.length) (now:Int) (prev:Option Int):now+1≤stepT h mc now prev b∧stepT h mc now prev b≤now+90:=by
 obtain⟨x,hx⟩:=At.mk hb
 have h1:=List.all_eq_true.1 hv.bs x hx.mem
 have h2:=List.all_eq_true.1 hv.ms mc hm.mem
 simp only[al7,ao1,fh9,within_iff]at h1 h2
 have hch:=within_iff.1 hv.ch
 unfold stepT
 rw[hx.X9]
 have h3:1*1≤x.h*mc.p:=Int.mul_le_mul (by omega) (by omega) (by omega) (by omega)
 have h4:x.h*mc.p≤9*9:=Int.mul_le_mul (by omega) (by omega) (by omega) (by omega)
 split<;>omega
theorem dG3 {h:A9} (hv:Valid h) {m:Nat} {mc:ah4} (hm:At h.ms m mc) {b:Nat} {x:ar8} (hx:At h.bs b x):1≤x.h*mc.p∧x.h*mc.p≤81∧0≤h.ch∧h.ch≤9:=by
 have h1:=List.all_eq_true.1 hv.bs x hx.mem
 have h2:=List.all_eq_true.1 hv.ms mc hm.mem
 simp only[al7,ao1,fh9,within_iff]at h1 h2
 have hch:=within_iff.1 hv.ch
 have h3:1*1≤x.h*mc.p:=Int.mul_le_mul (by omega) (by omega) (by omega) (by omega)
 have h4:x.h*mc.p≤9*9:=Int.mul_le_mul (by omega) (by omega) (by omega) (by omega)
 exact⟨by omega,by omega,hch.1,hch.2⟩
theorem ci8 {h:A9} (hv:Valid h) {m:Nat} {mc:ah4} (hm:At h.ms m mc):0≤mc.r∧mc.r≤99:=by
 have h2:=List.all_eq_true.1 hv.ms mc hm.mem
 simp only[ao1,fh9,within_iff]at h2
 exact h2.1.1
theorem br7:∀(n:Nat) (l:List Int),(∀x∈l,0≤x∧x≤(n:Int)-1)→l.Nodup→l.length≤n
 |0,l,h,_=>by
  cases l with
  |nil=>simp
  |cons x l=>have:=h x (by simp);omega
 |n+1,l,h,hn=>by
  have h1:=br7 n (l.erase n) (fun x hx=>by
   have h2:=h x (List.mem_of_mem_erase hx)
   have h3:x≠n:=fun e=>by subst e;exact(List.Nodup.not_mem_erase hn) hx
   omega) (hn.erase _)
  have h4:=List.length_erase (a:=(n:Int)) (l:=l)
  split at h4<;>omega
theorem cK5 {h:A9} {plan:List (List Int)} (hp:aa8 h plan=true):plan.flatten.length≤h.bs.length:=by
 simp only[aa8,fh9]at hp
 have:=au5.1 hp.2
 exact br7 _ _ this.1 this.2
theorem aS4 {h:A9} {plan:List (List Int)} (hp:aa8 h plan=true) {m:Nat} {l:List Int} (hl:At plan m l):l.length≤h.bs.length:=by
 have h1:=cK5 hp
 have h2:=congrArg List.length (congrArg List.flatten hl.split)
 simp at h2
 simp at h1
 omega
def aJ3 (h:A9) (times:List Int) (t:Nat) (k:Nat):Bool:=
 (List.range k).any fun i=>((h.bs.getD i default).t==(t:Int))&&(decide (times.getD i 0<0) || decide (h.ts.getD t 0<times.getD i 0))
def dx7 (h:A9) (times:List Int) (t:Nat):Bool:=aJ3 h times t h.bs.length
def aG9 (h:A9) (times:List Int) (m:Nat):List Int:=((List.range m).filter (dx7 h times)).map Int.ofNat
def ad4 (h:A9) (plan:List (List Int)):List Int:=aG9 h (aw3 h plan) h.ts.length
theorem ci9 (h:A9) (times:List Int) (m:Nat):(aG9 h times m).length≤m:=by
 unfold aG9
 rw[fg5]
 exact fh1 (List.length_filter_le _ _) (by simp)
end
section
def al4 (first:List (List Int)) (b:Nat):List (List Int):=first.take (first.length-1)++[first.getD (first.length-1) []++[(b:Int)]]
def ao2 (_h:A9) (rec:List (List Int)→List (List (List Int))) (first:List (List Int)) (k:Nat):List (List (List Int)):=
 (List.range k).flatMap fun(b:Nat)=>if decide ((b:Int)∈first.flatten)then []else rec (al4 first b)
def al8 (h:A9) (rec:List (List Int)→List (List (List Int))) (first:List (List Int)):List (List (List Int)):=
 if first.length=h.ms.length then [first]else rec (first++[[]])
def ae5 (h:A9) (stop:Int) (rec:List (List Int)→List (List (List Int))) (first:List (List Int)):List (List (List Int)):=
 al8 h rec first++(if(first.length:Int)-1=stop then []else ao2 h rec first h.bs.length)
def aU8 (h:A9) (stop:Int):Nat→List (List Int)→List (List (List Int))
 |0=>ae5 h stop (fun _=>[])
 |n+1=>ae5 h stop (aU8 h stop n)
def mu (h:A9) (first:List (List Int)):Nat:=(h.ms.length-first.length)+(h.bs.length-first.flatten.length)
def ac1 (h:A9) (stop:Int):List (List (List Int)):=aU8 h stop (mu h [[]]) [[]]
structure aq9 (h:A9) (first:List (List Int)):Prop where
 ne:0<first.length
 le:first.length≤h.ms.length
 good:aD2 h.bs.length first.flatten=true
theorem aq9.len {h:A9} {first:List (List Int)} (g:aq9 h first):first.flatten.length≤h.bs.length:=by
 have:=au5.1 g.good
 exact br7 _ _ this.1 this.2
theorem aq9.aU9 {h:A9} {first:List (List Int)} (g:aq9 h first) (hl:first.length≠h.ms.length):aq9 h (first++[[]])∧mu h (first++[[]])<mu h first:=by
 have:=g.le
 refine⟨⟨by simp,by simp;omega,by simpa using g.good⟩, ?_⟩
 unfold mu;simp;omega
theorem aG1 {first:List (List Int)} (hn:0<first.length) (b:Nat):(al4 first b).flatten=first.flatten++[(b:Int)]:=by
 obtain⟨l,hl⟩:=At.mk (xs:=first) (k:=first.length-1) (by omega)
 have h1:first.getD (first.length-1) []=l:=by rw[ff3,show first[first.length-1]? =some l from hl];rfl
 have h2:first.drop (first.length-1+1)=[]:=List.drop_eq_nil_iff.2 (by omega)
 have h3:first.flatten=(first.take (first.length-1)).flatten++l:=by
  have:=congrArg List.flatten hl.split
  rw[h2]at this
  simpa using this
 unfold al4
 rw[h1,h3];simp
theorem aB0 {first:List (List Int)} (hn:0<first.length) (b:Nat):(al4 first b).length=first.length:=by
 unfold al4;simp;omega
theorem aq9.bz4 {h:A9} {first:List (List Int)} (g:aq9 h first) {b:Nat} (hb:b<h.bs.length) (hn:(b:Int) ∉ first.flatten):aq9 h (al4 first b)∧mu h (al4 first b)<mu h first:=by
 have hgood:aD2 h.bs.length (al4 first b).flatten=true:=by
  rw[aG1 g.ne]
  exact ci6 g.good (within_iff.2 (by omega)) hn
 have g':aq9 h (al4 first b):=⟨by rw[aB0 g.ne];exact g.ne,by rw[aB0 g.ne];exact g.le,hgood⟩
 refine⟨g', ?_⟩
 have h1:=g'.len
 unfold mu
 rw[aB0 g.ne]
 rw[aG1 g.ne]at h1 ⊢
 simp at h1 ⊢;omega
theorem bC1 (h:A9) (rec:List (List Int)→List (List (List Int))) (first:List (List Int)) (k:Nat):
 ao2 h rec first (k+1)=ao2 h rec first k++(if decide ((k:Int)∈first.flatten)then []else rec (al4 first k)):=by
 unfold ao2
 rw[List.range_succ,List.flatMap_append];simp
end
section
theorem aV0 {h:A9} {stop:Int} {rec:List (List Int)→List (List (List Int))} {first:List (List Int)} (hg:aq9 h first)
 (hr:∀f,aq9 h f→mu h f<mu h first→∀p∈rec f,aa8 h p=true):∀p∈ae5 h stop rec first,aa8 h p=true:=by
 intro p hp
 unfold ae5 at hp
 rcases List.mem_append.1 hp with hp|hp
 ·unfold al8 at hp
  split at hp
  ·rename_i hl
   rw[List.mem_singleton.1 hp]
   simp[aa8,hl,hg.good]
  ·rename_i hl
   exact hr _ (hg.aU9 hl).1 (hg.aU9 hl).2 p hp
 ·split at hp
  ·simp at hp
  ·unfold ao2 at hp
   obtain⟨b,hb,hp⟩:=List.mem_flatMap.1 hp
   rw[List.mem_range]at hb
   split at hp
   ·simp at hp
   ·rename_i hn
    have hn':(b:Int) ∉ first.flatten:=by simpa using hn
    exact hr _ (hg.bz4 hb hn').1 (hg.bz4 hb hn').2 p hp
theorem bo4 {h:A9} {stop:Int}:∀(n:Nat) {first:List (List Int)},mu h first≤n→aq9 h first→∀p∈aU8 h stop n first,aa8 h p=true
 |0,first,hm,hg=>aV0 hg (fun f _ hlt=>by omega)
 |n+1,first,hm,hg=>aV0 hg (fun f hg' hlt=>bo4 n (by omega) hg')
theorem bY7 {h:A9} {stop:Int}:∀(n:Nat) {first:List (List Int)},mu h first≤n→aq9 h first→0<(aU8 h stop n first).length
 |n,first,hm,hg=>by
  have key:∀rec:List (List Int)→List (List (List Int)),(first.length≠h.ms.length→0<(rec (first++[[]])).length)→0<(ae5 h stop rec first).length:=by
   intro rec hr
   unfold ae5 al8
   rw[ff4]
   split
   ·simp;omega
   ·rename_i hl;have:=hr hl;omega
  cases n with
  |zero=>exact key _ (fun hl=>by have:=(hg.aU9 hl).2;omega)
  |succ n=>exact key _ (fun hl=>bY7 n (by have:=(hg.aU9 hl).2;omega) (hg.aU9 hl).1)
theorem bd0 {h:A9} (hv:Valid h):aq9 h [[]]:=⟨by simp,by have:=hv.m1;simpa using this,cx2 _⟩
theorem af1 {h:A9} (hv:Valid h) (stop:Int):∀p∈ac1 h stop,aa8 h p=true:=bo4 _ (fh0 _) (bd0 hv)
theorem bJ7 {h:A9} (hv:Valid h) (stop:Int):0<(ac1 h stop).length:=bY7 _ (fh0 _) (bd0 hv)
section
variable {α:Type}
def bst (f:α→Nat):List α→α→α
 |[],b=>b
 |y::l,b=>bst f l (if f y<f b then y else b)
theorem bh5 (f:α→Nat):∀(l r:List α) (b:α),bst f (l++r) b=bst f r (bst f l b)
 |[],_,_=>rfl
 |y::l,r,b=>by simp only[fg2,bst];exact bh5 f l r _
def ae6 [Inhabited α] (f:α→Nat) (l:List α):α:=bst f l (l.getD 0 default)
end
def Y7 (h:A9) (p:List (List Int)):Nat:=(ad4 h p).length
def Q3 (h:A9) (stop:Int):List (List Int):=ae6 (Y7 h) (ac1 h stop)
theorem At.getD {α:Type} {l:List α} {k:Nat} {x:α} (h:At l k x) (d:α):l.getD k d=x:=by
 rw[ff3,show l[k]? =some x from h];rfl
theorem bG9 (h:A9) (p:List (List Int)):Y7 h p≤h.ts.length:=ci9 h _ _
def az6 (h:A9) (k:Nat):List Int:= -1::((List.range k).filter fun m=>decide ((aw2 h m).s=1)).map Int.ofNat
def ag6 (h:A9):List Int:=az6 h h.ms.length
theorem br8 (h:A9) (k:Nat):az6 h (k+1)=if(aw2 h k).s=1 then az6 h k++[(k:Int)]else az6 h k:=by
 unfold az6
 rw[List.range_succ,List.filter_append]
 by_cases e:(aw2 h k).s=1<;>simp[e]
theorem bd2 {h:A9} {c:Int} (hc:c∈ag6 h): -1≤c∧c<h.ms.length:=by
 unfold ag6 az6 at hc
 rcases List.mem_cons.1 hc with rfl|hc
 ·omega
 ·obtain⟨m,hm,rfl⟩:=List.mem_map.1 hc
  have:=(List.mem_filter.1 hm).1
  rw[List.mem_range]at this
  constructor
  ·exact Int.le_trans (by decide) (Int.natCast_nonneg m)
  ·exact Int.ofNat_lt.2 this
def reach (late:List (List Int)) (told:List Int):Bool:=late.any fun l=>l.all fun t=>decide (t∈told)
theorem cj0 {h:A9} (hv:Valid h) {m:Nat} {mc:ah4} (hm:At h.ms m mc) {M:Int}:∀(l:List Int) (s:List Int × Int × Option Int),(∀x∈l,0≤x∧x≤(h.bs.length:Int)-1)→(∀x∈s.1,-1≤x∧x≤M)→0≤s.2.1→s.2.1+90*l.length≤M→∀x∈(al3 h mc l s).1,-1≤x∧x≤M
 |[],_,_,hs,_,_=>hs
 |b::l,(ts,now,prev),hl,hs,h0,hM=>by
  have hb:=hl b (by simp)
  obtain⟨j,rfl⟩:=Int.eq_ofNat_of_zero_le hb.1
  have hst:=dm0 hv hm (show j<h.bs.length by omega) now prev
  simp only[ff8]at hM h0
  simp only[al3]
  refine cj0 hv hm l _ (fun x hx=>hl x (by simp[hx])) ?_ ?_ ?_
  ·intro x hx
   rcases List.mem_or_eq_of_mem_set hx with hx|rfl
   ·exact hs x hx
   ·constructor<;>omega
  ·show 0≤stepT h mc now prev _
   omega
  ·show stepT h mc now prev _+_≤M
   omega
theorem bJ9 {h:A9} (hv:Valid h):∀(p:List (List Int)) (m:Nat) (ts:List Int),m+p.length≤h.ms.length→(∀x∈p.flatten,0≤x∧x≤(h.bs.length:Int)-1)→(∀l∈p,l.length≤5)→(∀x∈ts,-1≤x∧x≤1000)→∀x∈ah5 h m p ts,-1≤x∧x≤1000
 |[],_,_,_,_,_,hs=>hs
 |l::p,m,ts,hm,hp,hl,hs=>by
  simp only[ff8]at hm
  obtain⟨mc,hmc⟩:=At.mk (show m<h.ms.length by omega)
  have hr:=ci8 hv hmc
  have hl5:=hl l (by simp)
  simp only[ah5,hmc.aw2]
  refine bJ9 hv p (m+1) _ (by omega) (fun x hx=>hp x (by simp[hx])) (fun l' hl'=>hl l' (by simp[hl'])) ?_
  exact cj0 hv hmc l (ts,mc.r,none) (fun x hx=>hp x (by simp[hx])) hs hr.1 (by show mc.r+_≤_;omega)
theorem cK6 {h:A9} (hv:Valid h) {p:List (List Int)} (hp:aa8 h p=true):∀x∈aw3 h p,-1≤x∧x≤1000:=by
 have h1:=hp
 simp only[aa8,fh9,decide_eq_true_eq]at h1
 refine bJ9 hv p 0 _ (by omega) (au5.1 h1.2).1 ?_ ?_
 ·intro l hl
  obtain⟨k,hk,rfl⟩:=List.getElem_of_mem hl
  have:=aS4 hp (m:=k) (l:=p[k]) (fg0 hk)
  have:=hv.b5;omega
 ·intro x hx;rw[List.eq_of_mem_replicate hx];omega
def af5 (h:A9) (times:List Int) (t:Int):Nat→Option Int
 |0=>some (-100000)
 |k+1=>match af5 h times t k with
  |none=>none
  |some o=>if(X9 h (k:Nat)).t=t then(if times.getD k 0<0 then none else some (max o (times.getD k 0-h.ts.getD t.toNat 0)))else some o
def aE6 (h:A9) (plan:List (List Int)) (t:Int):Int:=(af5 h (aw3 h plan) t h.bs.length).getD 100000
theorem cK7 {h:A9} (hv:Valid h) {k:Nat} {x:Int} (hx:At h.ts k x):0≤x∧x≤99:=by
 have:=List.all_eq_true.1 hv.ts x hx.mem
 exact within_iff.1 this
def bh6 (h:A9) (t:Int) (acc:Int) (p:List (List Int)):Int:=if ad4 h p=[]∨ad4 h p=[t]then min acc (max 0 (aE6 h p t))else acc
def cj1 (h:A9) (t:Int) (c:Int):Int:=(ac1 h c).foldl (bh6 h t) 100000
def aM2 (h:A9) (t:Int):Int:=(ag6 h).foldl (fun o c=>max o (cj1 h t c)) 0
def cx3 (h:A9) (p:List (List Int)) (k:Nat):Int:=(List.range k).foldl (fun(l:Int) (t:Nat)=>min l (-(aE6 h p (t:Int)))) 100000
def aO7 (h:A9) (p:List (List Int)):Int:=cx3 h p h.ts.length
def aO8 (h:A9) (c:Int):Int:=(ac1 h c).foldl (fun m p=>max m (aO7 h p)) (-100000)
def aB1 (h:A9):Int:=(ag6 h).foldl (fun o c=>min o (aO8 h c)) 99
def dM0 (first:List Int):Nat:=if 0<first.length then(first.getD (first.length-1) 0).toNat+1 else 0
def dG4 (eC6:Nat) (rec:List Int→List (List Int)) (first:List Int) (k:Nat):List (List Int):=
 (List.range k).flatMap fun(n:Nat)=>if dM0 first≤n then rec (first++[(n:Int)])else []
def bY8 (many below:Nat) (rec:List Int→List (List Int)) (first:List Int):List (List Int):=if first.length=many then [first]else dG4 below rec first below
def cW8 (many below:Nat):Nat→List Int→List (List Int)
 |0=>bY8 many below (fun _=>[])
 |n+1=>bY8 many below (cW8 many below n)
def ad9 (many below:Nat):List (List Int):=cW8 many below many []
def dx8 (h:A9):List (List (List Int)):=(ag6 h).map fun c=>(ac1 h c).map (ad4 h)
def br9 (h:A9) (l:List Int):Bool:=(dx8 h).all fun late=>reach late l
def toldOf (h:A9):List Int:=(((List.range h.ts.length).flatMap fun many=>ad9 many h.ts.length).find? (br9 h)).getD ((ad9 h.ts.length h.ts.length).getD 0 [])
def aJ4 (h:A9) (S:List Int) (c:Int):Bool:=(ac1 h c).any fun p=>(ad4 h p).all fun t=>decide (t∈S)
def ar0 (h:A9) (S:List Int):Bool:=(ag6 h).all (aJ4 h S)
end
section
theorem bs0 (h:A9) (l:List Int):br9 h l=ar0 h l:=by
 unfold br9 dx8 ar0
 rw[List.all_map]
 congr 1
 funext c
 simp only[Function.comp_def,reach,aJ4,List.any_map]
def aj4 (nt:Nat):List (List Int):=((List.range nt).flatMap fun many=>ad9 many nt)++[(ad9 nt nt).getD 0 []]
theorem cx4 {q:List Int→Bool} {B:List (List Int)} {r:List Int} (h:B.find? q=some r):q r=true∧r∈B∧∀b∈B,B.idxOf b<B.idxOf r→q b=false:=by
 obtain⟨hq,l1,l2,rfl,hn⟩:=List.find?_eq_some_iff_append.1 h
 refine⟨hq,by simp,fun b hb hlt=> ?_⟩
 have hr:r ∉ l1:=fun hm=>by have:=hn r hm;simp[hq]at this
 have hri:(l1++r::l2).idxOf r=l1.length:=by rw[List.idxOf_append,if_neg hr];simp
 rw[hri]at hlt
 have hbm:b∈l1:=by
  have h1:=List.getElem_idxOf (xs:=l1++r::l2) (x:=b) (List.idxOf_lt_length_of_mem hb)
  rw[List.getElem_append_left hlt]at h1
  rw[←h1]
  exact List.getElem_mem _
 simpa using hn b hbm
theorem cW9 {nt:Nat} (h:nt≤4):(ad9 nt nt).getD 0 []=(List.range nt).map Int.ofNat:=by
 rcases(by omega:nt=0∨nt=1∨nt=2∨nt=3∨nt=4)with rfl|rfl|rfl|rfl|rfl
 all_goals decide+kernel
theorem bY9 {h:A9} (hv:Valid h):ar0 h ((ad9 h.ts.length h.ts.length).getD 0 [])=true:=by
 rw[cW9 hv.t4]
 unfold ar0
 rw[List.all_eq_true]
 intro c _
 unfold aJ4
 rw[List.any_eq_true]
 obtain⟨p,hp⟩:=List.exists_mem_of_length_pos (bJ7 hv c)
 refine⟨p,hp, ?_⟩
 rw[List.all_eq_true]
 intro t ht
 simp only[ad4,aG9,List.mem_map,List.mem_filter,List.mem_range]at ht
 obtain⟨i,⟨hi,_⟩,rfl⟩:=ht
 simp only[decide_eq_true_eq,List.mem_map,List.mem_range]
 exact⟨i,hi,rfl⟩
end
section
structure Mld where
 pg:Int
 us:Int
 br:Int
 deriving DecidableEq,Inhabited
structure G5 where
 mo:List Mld
 wo:List (List Int)
 wa:List Int
 fr:Int
 deriving DecidableEq,Inhabited
def am5 (np:Nat) (m:Mld):Bool:=within m.pg 0 ((np:Int)-1)&&within m.us 0 12&&within m.br 0 1
def ai5 (nm:Nat) (w:List Int):Bool:=decide (w.length=nm)&&w.all fun n=>within n 0 12
def Y5 (s:G5):Bool:=
 decide (s.wa.length≤3)&&decide (s.mo.length≤5)&&decide (s.wo.length≤6)&&within s.fr 1 12&&
 (s.wa.all fun n=>within n 0 12)&&(s.mo.all (am5 s.wa.length))&&(s.wo.all (ai5 s.mo.length))
def ax6 (b:Bool):Int:=if b then 0 else 20
structure Y0 (s:G5):Prop where
 w3:s.wa.length≤3
 m5:s.mo.length≤5
 o6:s.wo.length≤6
 fr:within s.fr 1 12=true
 wa:(s.wa.all fun n=>within n 0 12)=true
 mo:s.mo.all (am5 s.wa.length)=true
 wo:s.wo.all (ai5 s.mo.length)=true
theorem aj5 {s:G5}:Y5 s=true↔Y0 s:=by
 unfold Y5
 simp only[fh9,decide_eq_true_eq]
 exact⟨fun⟨⟨⟨⟨⟨⟨a,b⟩,c⟩,d⟩,e⟩,f⟩,g⟩=>⟨a,b,c,d,e,f,g⟩,fun v=>⟨⟨⟨⟨⟨⟨v.w3,v.m5⟩,v.o6⟩,v.fr⟩,v.wa⟩,v.mo⟩,v.wo⟩⟩
theorem cj3 {s:G5} (h:Y0 s):ax6 (Y5 s)=0:=by rw[aj5.2 h];rfl
theorem cE1 {s:G5} (h:¬Y0 s):ax6 (Y5 s)=20:=by
 have:Y5 s=false:=by
  cases e:Y5 s with
  |false=>rfl
  |true=>exact absurd (aj5.1 e) h
 rw[this];rfl
def mld (s:G5) (i:Nat):Mld:=s.mo.getD i default
def wld (s:G5) (k:Nat):List Int:=s.wo.getD k []
def an5 (m:Mld) (n:Int):Bool:=decide (m.us≤n)&&(!decide (m.br=1) || decide (n=m.us))
def au6 (s:G5) (w:List Int) (t:Nat):Bool:=(List.range t).all fun i=>an5 (mld s i) (w.getD i 0)
def aI1 (s:G5) (w:List Int):Bool:=au6 s w s.mo.length
theorem cf1 (s:G5) (w:List Int) (t:Nat):au6 s w (t+1)=(au6 s w t&&an5 (mld s t) (w.getD t 0)):=by
 unfold au6;rw[List.range_succ,List.all_append];simp
theorem bT1 {s:G5} {w:List Int} {t n:Nat} (h:t<n) (e:an5 (mld s t) (w.getD t 0)=false):au6 s w n=false:=by
 unfold au6
 rw[List.all_eq_false]
 exact⟨t,List.mem_range.2 h,by rw[e];decide⟩
def am1 (s:G5) (t:Nat):List Nat:=(List.range t).filter fun k=>aI1 s (wld s k)
def F4 (s:G5):List Nat:=am1 s s.wo.length
theorem bo5 (s:G5) (t:Nat):am1 s (t+1)=if aI1 s (wld s t)then am1 s t++[t]else am1 s t:=by
 unfold am1
 rw[List.range_succ,List.filter_append]
 cases e:aI1 s (wld s t)
 ·simp[e]
 ·simp[e]
theorem aJ5 (s:G5) (t:Nat):(am1 s t).length≤t:=by
 unfold am1
 exact fh1 (List.length_filter_le _ _) (by simp)
def cE3 (s:G5):List Int:=(F4 s).map Int.ofNat
def O7 (s:G5) (k i:Nat):Int:=(wld s k).getD i 0-(mld s i).us
def al0 (s:G5) (i:Nat):List Nat→Int
 |[]=>0
 |k::l=>l.foldl (fun o j=>min o (O7 s j i)) (O7 s k i)
def ee6 (s:G5) (i:Nat):List Nat→Int
 |[]=>0
 |k::l=>l.foldl (fun o j=>max o (O7 s j i)) (O7 s k i)
def as6 (s:G5) (i:Nat):Int:=al0 s i (F4 s)
def bK0 (s:G5) (i:Nat):Int:=ee6 s i (F4 s)
theorem cX0 (s:G5) (i:Nat) (l:List Nat) (k:Nat) (h:l≠[]):al0 s i (l++[k])=min (al0 s i l) (O7 s k i):=by
 cases l with
 |nil=>exact absurd rfl h
 |cons a l=>show(l++[k]).foldl _ _=_;rw[List.foldl_append];rfl
def as7 (s:G5) (p:Int):Nat→Int
 |0=>0
 |t+1=>as7 s p t+(if(mld s t).pg=p then as6 s t else 0)
def aA6 (s:G5) (p:Int):Int:=as7 s p s.mo.length
def aM3 (fr:Int) (short:Int):Int:=if 0<short then(short+fr-1) / fr else 0
def ax7 (s:G5):Nat→Int
 |0=>0
 |t+1=>ax7 s t+aM3 s.fr (s.wa.getD t 0-aA6 s (t:Int))
def cK8 (s:G5):Int:=ax7 s s.wa.length
def ay9 (s:G5) (i:Nat) (l:List Nat):Nat:=(l.filter fun k=>decide (O7 s k i=0)).length
def aY7 (s:G5) (i:Nat):Nat:=ay9 s i (F4 s)
def aD3 (s:G5) (i:Nat):Nat:=max (aY7 s i) ((F4 s).length-aY7 s i)
def ab5 (s:G5):Nat→Int × Nat
 |0=>(-1,(F4 s).length)
 |t+1=>if aD3 s t<(ab5 s t).2 then((t:Int),aD3 s t)else ab5 s t
def be7 (s:G5):Int:=(ab5 s s.mo.length).1
def aa9 (s:G5) (is:Bool):Int:=if Y5 s then(if is then(if(F4 s).length=0 then 3 else 0)else 1)else 20
def newR (s:G5):Int:=if aa9 s true=0 then cK8 s else 0
def az7 (s:G5):List Int:=if Y5 s then cE3 s else []
def as8 (s:G5) (i:Int):Bool:=within i 0 ((s.mo.length:Int)-1)
def az0 (s:G5) (i:Int):Int:=if aa9 s (as8 s i)=0 then as6 s i.toNat else 0
def az1 (s:G5) (i:Int):Int:=if aa9 s (as8 s i)=0 then bK0 s i.toNat else 0
def aS5 (s:G5):Int:=if aa9 s true=0 then(if be7 s<0 then 3 else 0)else aa9 s true
def aS6 (s:G5):Int:=if aS5 s=0 then be7 s else 0
end
section
open Go.RowKit
abbrev j5:=Nat→Option Obj
structure j4 (H:j5) (w:World):Prop where
 at_:∀b o,H b=some o→w.heap[b]? =some o
def D8 (H H':j5):Prop:=∀b o,H b=some o→H' b=some o
theorem D8.refl (H:j5):D8 H H:=fun _ _ h=>h
theorem D8.trans {A B C:j5} (h:D8 A B) (k:D8 B C):D8 A C:=fun b o e=>k b o (h b o e)
theorem j4.lt {H:j5} {w:World} (h:j4 H w) {b:Nat} {o:Obj} (e:H b=some o):b<w.heap.size:=by
 have h1:=h.at_ b o e
 rcases Nat.lt_or_ge b w.heap.size with h'|h'
 ·exact h'
 ·simp[Array.getElem?_eq_none h']at h1
theorem j4.D6 {H:j5} {w:World} (h:j4 H w) {b:Nat} (hb:w.heap.size≤b):H b=none:=by
 cases e:H b with
 |none=>rfl
 |some o=>have:=h.lt e;omega
theorem j4.below {H:j5} {w w':World} (h:j4 H w) (hb:Below w.heap.size w w'):j4 H w':=
 ⟨fun b o e=>(hb.block b (h.lt e)).trans (h.at_ b o e)⟩
theorem j4.mono {H H':j5} {w:World} (h:j4 H' w) (k:D8 H H'):j4 H w:=⟨fun b o e=>h.at_ b o (k b o e)⟩
theorem j4.drew {H:j5} {w:World} (h:j4 H w):j4 H w.drew:=⟨h.at_⟩
theorem j4.drewN {H:j5} {w:World} (h:j4 H w) (n:Nat):j4 H (w.drewN n):=⟨h.at_⟩
theorem j4.alloc {H:j5} {w:World} (h:j4 H w) (o:Obj):j4 H (w.alloc o):=
 h.below ((Below.refl _ _).alloc (fh0 _) o)
theorem j4.setCell {H:j5} {w:World} (h:j4 H w) {a:Addr} (ha:H a.block=none) (v:Value):j4 H (w.setCell a v):=
 ⟨fun b o e=>by
  have hne:b≠a.block:=fun hb=>by rw[hb,ha]at e;cases e
  exact(Below.heap_setCell w a v b hne).trans (h.at_ b o e)⟩
theorem j4.grown {H:j5} {w w':World} {row:Option Nat} (h:j4 H w) (hg:w.grownBy w' row) (hr:∀k,row=some k→H k=none):j4 H w':=
 ⟨fun b o e=>(hg.block b (h.lt e) (fun hb=>by rw[hr b hb.symm]at e;cases e)).trans (h.at_ b o e)⟩
def j5.put (H:j5) (b:Nat) (o:Obj):j5:=fun k=>if k=b then some o else H k
theorem j5.G7 (H:j5) (b:Nat) (o:Obj):H.put b o b=some o:=by simp[j5.put]
theorem j5.F3 (H:j5) {b k:Nat} (o:Obj) (h:k≠b):H.put b o k=H k:=by simp[j5.put,h]
theorem j5.L9 {H:j5} {b:Nat} (h:H b=none) (o:Obj):D8 H (H.put b o):=fun k o' e=>by
 have:k≠b:=fun hk=>by rw[hk,h]at e;cases e
 rw[j5.F3 _ _ this];exact e
theorem j4.put {H:j5} {w:World} (h:j4 H w) {b:Nat} {o:Obj} (e:w.heap[b]? =some o):j4 (H.put b o) w:=
 ⟨fun k o' ek=>by
  by_cases hk:k=b
  ·subst hk;rw[j5.G7]at ek;cases ek;exact e
  ·rw[j5.F3 _ _ hk]at ek;exact h.at_ k o' ek⟩
structure Ext (w:World) (H:j5) (w':World) (H':j5):Prop where
 below:Below w.heap.size w w'
 holds:j4 H' w'
 same:∀b,b<w.heap.size→H' b=H b
theorem Ext.refl {w:World} {H:j5} (h:j4 H w):Ext w H w H:=⟨Below.refl _ _,h,fun _ _=>rfl⟩
theorem Ext.trans {w w1 w2:World} {H H1 H2:j5} (h:Ext w H w1 H1) (k:Ext w1 H1 w2 H2):Ext w H w2 H2:=
 ⟨h.below.trans (k.below.mono h.below.size),k.holds,fun b hb=>(k.same b (fh4 hb h.below.size)).trans (h.same b hb)⟩
theorem Ext.le {w w':World} {H H':j5} (h:Ext w H w' H') (hw:j4 H w):D8 H H':=fun b _o e=>(h.same b (hw.lt e)).trans e
theorem Ext.old {w w':World} {H H':j5} (h:Ext w H w' H') (hw:j4 H w):j4 H w':=h.holds.mono (h.le hw)
theorem Ext.step {w w1 w2:World} {H H1:j5} (h:Ext w H w1 H1) (k:Below w.heap.size w1 w2) (hh:j4 H1 w2):Ext w H w2 H1:=
 ⟨h.below.trans k,hh,h.same⟩
theorem Ext.drew {w w1:World} {H H1:j5} (h:Ext w H w1 H1):Ext w H w1.drew H1:=⟨h.below.drew,h.holds.drew,h.same⟩
theorem Ext.drewN {w w1:World} {H H1:j5} (h:Ext w H w1 H1) (n:Nat):Ext w H (w1.drewN n) H1:=⟨⟨h.below.os,h.below.tape,h.below.output,h.below.size,h.below.block⟩,h.holds.drewN n,h.same⟩
theorem Ext.alloc {w w1:World} {H H1:j5} (h:Ext w H w1 H1) (o:Obj):Ext w H (w1.alloc o) H1:=
 ⟨h.below.alloc h.below.size o,h.holds.alloc o,h.same⟩
theorem Ext.setCell {w w1:World} {H H1:j5} (h:Ext w H w1 H1) {a:Addr} (hb:w.heap.size≤a.block) (ha:H1 a.block=none) (v:Value):Ext w H (w1.setCell a v) H1:=
 ⟨h.below.setCell hb v,h.holds.setCell ha v,h.same⟩
theorem Ext.grown {w w1 w2:World} {H H1:j5} {row:Option Nat} (h:Ext w H w1 H1) (hg:w1.grownBy w2 row) (hb:∀k,row=some k→w.heap.size≤k) (hr:∀k,row=some k→H1 k=none):Ext w H w2 H1:=
 ⟨h.below.grown hg h.below.size hb,h.holds.grown hg hr,h.same⟩
theorem Ext.freeze {w w1:World} {H H1:j5} (h:Ext w H w1 H1) {b:Nat} {o:Obj} (hb:w.heap.size≤b) (e:w1.heap[b]? =some o):Ext w H w1 (H1.put b o):=
 ⟨h.below,h.holds.put e,fun k hk=>by rw[j5.F3 _ _ (by omega)];exact h.same k hk⟩
theorem bh7 {W w1:World} (hb:Below W.heap.size W w1):∀b o,b<W.heap.size→w1.cell? ⟨b,o,none⟩=W.cell? ⟨b,o,none⟩:=fun b o h=>hb.cell (p:=⟨b,o,none⟩) h
def Post (w:World) (H:j5) (R:Value→j5→Prop) (e:Ending) (w':World):Prop:=
 ∃v H',e= .returned v∧Ext w H w' H'∧R v H'
def I1 (w:World) (v:Value) (e:Ending) (w':World):Prop:=e= .returned v∧Below w.heap.size w w'
theorem an6 {k:IntKind} {a b:Int} (h:a=b):Ending.returned (.int k a)= .returned (.int k b):=by rw[h]
theorem M0 {a b:Bool} (h:a=b):Ending.returned (.bool a)= .returned (.bool b):=by rw[h]
class Enc (α:Type) where
 sz:Nat
 M4:Nat
 rep:j5→α→List Value→Prop
 len:∀{H:j5} {x:α} {cs:List Value},rep H x cs→cs.length=sz
 mono:∀{H H':j5} {x:α} {cs:List Value},D8 H H'→rep H x cs→rep H' x cs
 one:∀{H:j5} {x:α} {cs:List Value},rep H x cs→∀u∈cs,u.oneCell'=true
def K8 (x:Int):Prop:= -9223372036854775808≤x∧x≤9223372036854775807
instance:Enc Int where
 sz:=1
 M4:=8
 rep:=fun _ x cs=>cs=[.int .i64 x]∧K8 x
 len:=fun h=>by rw[h.1];rfl
 mono:=fun _ h=>h
 one:=fun h u hu=>by rw[h.1]at hu;simp at hu;subst hu;rfl
section
variable {α:Type} [Enc α]
def P6 (H:j5):List α→List Value→Prop
 |[],cs=>cs=[]
 |x::xs,cs=>∃c1 c2,cs=c1++c2∧Enc.rep H x c1∧P6 H xs c2
theorem P6.len {H:j5}:∀{xs:List α} {cs:List Value},P6 H xs cs→cs.length=xs.length*Enc.sz α
 |[],_,h=>by simp[show _=[]from h]
 |x::xs,_,⟨c1,c2,e,h1,h2⟩=>by
  rw[e,ff4,Enc.len h1,P6.len h2,ff8,Nat.add_mul,Nat.one_mul,Nat.add_comm]
theorem P6.mono {H H':j5} (k:D8 H H'):∀{xs:List α} {cs:List Value},P6 H xs cs→P6 H' xs cs
 |[],_,h=>h
 |_::_,_,⟨c1,c2,e,h1,h2⟩=>⟨c1,c2,e,Enc.mono k h1,P6.mono k h2⟩
theorem P6.one {H:j5}:∀{xs:List α} {cs:List Value},P6 H xs cs→∀u∈cs,u.oneCell'=true
 |[],_,h=>by rw[show _=[]from h];simp
 |_::_,_,⟨c1,c2,e,h1,h2⟩=>fun u hu=>by
  rw[e,List.mem_append]at hu
  exact hu.elim (Enc.one h1 u) (P6.one h2 u)
theorem P6.append {H:j5}:∀{xs ys:List α} {cs ds:List Value},P6 H xs cs→P6 H ys ds→P6 H (xs++ys) (cs++ds)
 |[],_,_,_,h,k=>by rw[show _=[]from h];exact k
 |_::_,_,_,_,⟨c1,c2,e,h1,h2⟩,k=>⟨c1,c2++_,by rw[e,List.append_assoc],h1,P6.append h2 k⟩
theorem P6.single {H:j5} {x:α} {cs:List Value} (h:Enc.rep H x cs):P6 H [x] cs:=⟨cs,[],by simp,h,rfl⟩
theorem P6.split {H:j5}:∀{xs ys:List α} {cs:List Value},P6 H (xs++ys) cs→∃c1 c2,cs=c1++c2∧P6 H xs c1∧P6 H ys c2
 |[],_,cs,h=>⟨[],cs,rfl,rfl,h⟩
 |_::xs,_,_,⟨c1,c2,e,h1,h2⟩=>by
  obtain⟨d1,d2,e2,k1,k2⟩:=P6.split (xs:=xs) h2
  exact⟨c1++d1,d2,by rw[e,e2,List.append_assoc],⟨c1,d1,rfl,h1,k1⟩,k2⟩
theorem P6.get {H:j5}:∀{xs:List α} {cs:List Value} {k:Nat} {x:α},P6 H xs cs→xs[k]? =some x→
 ∃ds,Enc.rep H x ds∧∀(j:Nat) (u:Value),ds[j]? =some u→cs[k*Enc.sz α+j]? =some u
 |[],_,_,_,_,h=>by simp at h
 |y::xs,_,0,x,⟨c1,c2,e,h1,h2⟩,h=>by
  simp at h;subst h
  exact⟨c1,h1,fun j u hu=>by rw[e,Nat.zero_mul,Nat.zero_add];rw[List.getElem?_append_left (List.getElem?_eq_some_iff.1 hu).1];exact hu⟩
 |y::xs,_,k+1,x,⟨c1,c2,e,h1,h2⟩,h=>by
  simp at h
  obtain⟨ds,hd,hj⟩:=P6.get h2 h
  refine⟨ds,hd,fun j u hu=> ?_⟩
  have hl:=Enc.len h1
  rw[e,List.getElem?_append_right (by rw[hl,Nat.add_mul];omega),hl]
  have:(k+1)*Enc.sz α+j-Enc.sz α=k*Enc.sz α+j:=by rw[Nat.add_mul];omega
  rw[this];exact hj j u hu
def Sl (H:j5) (v:Value) (xs:List α):Prop:=
 ∃a c,v= .slice a xs.length c∧xs.length≤c∧c≤9223372036854775807∧xs.length*Enc.M4 α≤140737488355328∧
  (xs=[]∨∃b o cur e fr,a=some ⟨b,o,none⟩∧H b=some (.cells cur e fr)∧o+xs.length*Enc.sz α≤cur.size∧P6 H xs ((cur.toList.drop o).take (xs.length*Enc.sz α)))
theorem Sl.mono {H H':j5} (k:D8 H H') {v:Value} {xs:List α} (h:Sl H v xs):Sl H' v xs:=by
 obtain⟨a,c,h1,h2,h3,h4,h5⟩:=h
 refine⟨a,c,h1,h2,h3,h4, ?_⟩
 rcases h5 with h5|⟨b,o,cur,e,fr,ha,hb,ho,hr⟩
 ·exact .inl h5
 ·exact .inr ⟨b,o,cur,e,fr,ha,k _ _ hb,ho,hr.mono k⟩
theorem Sl.form {H:j5} {v:Value} {xs:List α} (h:Sl H v xs):∃a c,v= .slice a xs.length c∧xs.length≤c∧c≤9223372036854775807:=by
 obtain⟨a,c,h1,h2,h3,_⟩:=h
 exact⟨a,c,h1,h2,h3⟩
theorem Sl.bytes {H:j5} {v:Value} {xs:List α} (h:Sl H v xs):xs.length*Enc.M4 α≤140737488355328:=by
 obtain⟨a,c,_,_,_,h4,_⟩:=h;exact h4
theorem Sl.le {H:j5} {v:Value} {xs:List α} (h:Sl H v xs):xs.length≤9223372036854775807:=by
 obtain⟨a,c,_,h2,h3,_⟩:=h;omega
theorem Sl.nil (H:j5) (a:Option Addr) {c:Nat} (hc:c≤9223372036854775807):Sl H (.slice a 0 c) ([]:List α):=
 ⟨a,c,rfl,fh3 _,hc,by simp,.inl rfl⟩
theorem Sl.Y9 (H:j5):Sl H (.slice none 0 0) ([]:List α):=Sl.nil H none (by omega)
theorem Sl.get {H:j5} {v:Value} {xs:List α} {k:Nat} {x:α} (h:Sl H v xs) (hx:At xs k x):
 ∃b o c ds,v= .slice (some ⟨b,o,none⟩) xs.length c∧Enc.rep H x ds∧∀w,j4 H w→∀(j:Nat) (u:Value),ds[j]? =some u→w.cell? ⟨b,o+k*Enc.sz α+j,none⟩=some u:=by
 obtain⟨a,c,h1,h2,h3,_,h5⟩:=h
 rcases h5 with h5|⟨b,o,cur,e,fr,ha,hb,ho,hr⟩
 ·subst h5;simp[At]at hx
 ·obtain⟨ds,hd,hj⟩:=P6.get hr hx
  refine⟨b,o,c,ds,by rw[h1,ha],hd,fun w hw j u hu=> ?_⟩
  have h6:=hj j u hu
  rw[List.getElem?_take]at h6
  split at h6
  ·rw[List.getElem?_drop]at h6
   rw[cell_of_row w b _ cur e fr (hw.at_ _ _ hb)]
   rw[Nat.add_assoc]
   simpa using h6
  ·cases h6
instance ee5:Enc (List α) where
 sz:=1
 M4:=24
 rep:=fun H x cs=>∃v,cs=[v]∧Sl H v x
 len:=fun⟨v,e,_⟩=>by rw[e];rfl
 mono:=fun k ⟨v,e,h⟩=>⟨v,e,h.mono k⟩
 one:=fun⟨v,e,h⟩ u hu=>by
  rw[e]at hu;simp at hu;subst hu
  obtain⟨a,c,rfl,_⟩:=h.form
  rfl
end
theorem Sl.int {H:j5} {v:Value} {xs:List Int} {k:Nat} {x:Int} (h:Sl H v xs) (hx:At xs k x):
 ∃b o c,v= .slice (some ⟨b,o,none⟩) xs.length c∧(-9223372036854775808≤x∧x≤9223372036854775807)∧∀w,j4 H w→w.cell? ⟨b,o+k,none⟩=some (.int .i64 x):=by
 obtain⟨b,o,c,ds,hv,⟨hd,hi⟩,hc⟩:=h.get hx
 refine⟨b,o,c,hv,hi,fun w hw=> ?_⟩
 have:=hc w hw 0 (.int .i64 x) (by rw[hd];rfl)
 simpa [Enc.sz]using this
theorem Sl.list {α:Type} [Enc α] {H:j5} {v:Value} {xs:List (List α)} {k:Nat} {x:List α} (h:Sl H v xs) (hx:At xs k x):
 ∃b o c u,v= .slice (some ⟨b,o,none⟩) xs.length c∧Sl H u x∧∀w,j4 H w→w.cell? ⟨b,o+k,none⟩=some u:=by
 obtain⟨b,o,c,ds,hv,⟨u,hd,hi⟩,hc⟩:=h.get hx
 refine⟨b,o,c,u,hv,hi,fun w hw=> ?_⟩
 have:=hc w hw 0 u (by rw[hd];rfl)
 simpa [Enc.sz]using this
structure af2 (P:Program) (t e:TypeId) (α:Type) [Enc α]:Prop where
 und:P.underlying t=some (.slice e)
 inf:∃i z,P.info? e=some i∧i.zero=some z∧i.size=Enc.sz α∧i.bytes=Enc.M4 α∧z.cells.size=Enc.sz α
 pos:0<Enc.sz α
theorem af2.mk' {P:Program} {t e:TypeId} {α:Type} [Enc α] (z:Value) (hu:P.underlying t=some (.slice e)) (hi:(P.info? e).map (fun i=>(i.zero,i.size,i.bytes))=some (some z,Enc.sz α,Enc.M4 α)) (hz:z.cells.size=Enc.sz α) (hp:0<Enc.sz α):af2 P t e α:=by
 obtain⟨i,h1,h2⟩:=Option.map_eq_some_iff.1 hi
 simp only[Prod.mk.injEq]at h2
 exact⟨hu,⟨i,z,h1,h2.1,h2.2.1,h2.2.2,hz⟩,hp⟩
def Own {α:Type} [Enc α] (H:j5) (base:Nat) (w:World) (e:TypeId) (v:Value) (xs:List α):Prop:=
 ∃cells,w.ownsRow base e (Enc.sz α) v xs.length cells∧P6 H xs cells∧(∀k,v.ownBlock=some k→H k=none)∧xs.length*Enc.M4 α≤140737488355328
section
variable {α:Type} [Enc α] {P:Program} {H:j5} {base:Nat} {w:World} {t e:TypeId} {v:Value} {xs ys:List α}
theorem Own.nil (H:j5) (base:Nat) (w:World) (e:TypeId):Own H base w e (.slice none 0 0) ([]:List α):=
 ⟨[],World.ownsRow_nil w base e _,rfl,by simp[Value.ownBlock],by simp⟩
theorem Own.form (h:Own H base w e v xs):∃a c,v= .slice a xs.length c∧xs.length≤c∧c≤9223372036854775807:=by
 obtain⟨cells,⟨hl,ho⟩,_,_⟩:=h
 rcases ho with⟨rfl,hn⟩|⟨g,cap,cur,rfl,_,_,hnc,hcm,_⟩
 ·exact⟨none,0,by rw[hn],by omega,by omega⟩
 ·exact⟨_,cap,rfl,hnc,by simp only[maxLen]at hcm;omega⟩
theorem Own.kept {w':World} {row:Option Nat} (h:Own H base w e v xs) (hg:w.grownBy w' row) (hne:v.ownBlock=none∨v.ownBlock≠row):Own H base w' e v xs:=by
 obtain⟨cells,ho,hr⟩:=h
 exact⟨cells,ho.kept hg hne,hr⟩
theorem Own.lt (h:Own H base w e v xs):∀k,v.ownBlock=some k→base≤k∧k<w.heap.size:=by
 obtain⟨cells,ho,_⟩:=h;exact ho.lt
theorem Own.free (h:Own H base w e v xs):∀k,v.ownBlock=some k→H k=none:=by
 obtain⟨cells,ho,_,hf,_⟩:=h;exact hf
theorem Own.ext {w':World} {H':j5} (h:Own H base w e v xs) (hw:j4 H w) (hx:Ext w H w' H'):Own H' base w' e v xs:=by
 obtain⟨cells,ho,hr,hf,hb⟩:=h
 have hlt:=ho.lt
 refine⟨cells,⟨ho.1, ?_⟩,hr.mono (hx.le hw),fun k hk=>by rw[hx.same k (hlt k hk).2];exact hf k hk,hb⟩
 rcases ho.2 with hn|⟨g,cap,cur,rfl,hbg,hgg,rest⟩
 ·exact .inl hn
 ·exact .inr ⟨g,cap,cur,rfl,hbg,(hx.below.block g (Array.getElem?_eq_some_iff.1 hgg).1).trans hgg,rest⟩
theorem Own.alloc (h:Own H base w e v xs) (o:Obj):Own H base (w.alloc o) e v xs:=by
 obtain⟨cells,ho,hr⟩:=h
 exact⟨cells,ho.alloc o,hr⟩
theorem Own.drew (h:Own H base w e v xs):Own H base w.drew e v xs:=h
theorem Own.setCell {a:Addr} (h:Own H base w e v xs) (ha:v.ownBlock≠some a.block) (u:Value):Own H base (w.setCell a u) e v xs:=by
 obtain⟨cells,ho,hr⟩:=h
 exact⟨cells,ownsRow_setCell_other ho ha u,hr⟩
theorem Own.freeze (h:Own H base w e v xs) (hw:j4 H w):∃H',D8 H H'∧j4 H' w∧Sl H' v xs∧∀b,v.ownBlock≠some b→H' b=H b:=by
 obtain⟨cells,⟨hl,ho⟩,hr,hf,hb⟩:=h
 rcases ho with⟨rfl,hn⟩|⟨g,cap,cur,rfl,_,hg,hnc,hcm,hcs,htake⟩
 ·have hx:xs=[]:=List.eq_nil_of_length_eq_zero hn
  subst hx
  exact⟨H,D8.refl H,hw,Sl.Y9 H,fun _ _=>rfl⟩
 ·have hgH:H g=none:=hf g rfl
  have hle:=j5.L9 hgH (.cells cur e (0,0))
  refine⟨H.put g (.cells cur e (0,0)),hle,hw.put hg,⟨some ⟨g,0,none⟩,cap,rfl,hnc,by simp only[maxLen]at hcm;omega,hb, ?_⟩,fun b hb=>j5.F3 _ _ (fun e=>hb (by simp[Value.ownBlock,e]))⟩
  refine .inr ⟨g,0,cur,e,(0,0),rfl,j5.G7 _ _ _, ?_, ?_⟩
  ·rw[hcs,Nat.zero_add];exact Nat.mul_le_mul_right _ hnc
  ·rw[ff6,htake];exact hr.mono hle
theorem Own.close {w0:World} {H0:j5} (h:Own H w0.heap.size w e v xs) (hx:Ext w0 H0 w H):∃H',Ext w0 H0 w H'∧D8 H H'∧Sl H' v xs∧∀b,v.ownBlock≠some b→H' b=H b:=by
 obtain⟨H',hle,hh,hs,hsame⟩:=h.freeze hx.holds
 refine⟨H',⟨hx.below,hh,fun b hb=> ?_⟩,hle,hs,hsame⟩
 rw[hsame b (fun e=>by have:=(h.lt b e).1;omega)]
 exact hx.same b hb
theorem Sl.cells {u:Value} (hu:Sl H u ys) (hne:ys≠[]) (hw:j4 H w):∃a c cells,u= .slice (some a) ys.length c∧cells.length=ys.length*Enc.sz α∧P6 H ys cells∧(∀(j:Nat) (x:Value),cells[j]? =some x→w.cell? (a.add j)=some x):=by
 obtain⟨a,c,rfl,_,_,_,h5⟩:=hu
 rcases h5 with h5|⟨b,o,cur,e',fr,rfl,hb,ho,hr⟩
 ·exact absurd h5 hne
 ·refine⟨⟨b,o,none⟩,c,_,rfl,hr.len,hr,fun j x hx=> ?_⟩
  rw[Addr.add_lit,cell_of_row w b _ cur e' fr (hw.at_ _ _ hb)]
  rw[List.getElem?_take]at hx
  split at hx
  ·rw[List.getElem?_drop]at hx
   simpa using hx
  ·cases hx
theorem cE4 (T:af2 P t e α) (ty:TypeId) (hown:Own H base w e v xs) {u:Value} (hu:Sl H u ys) (hw:j4 H w) (hlen:(xs.length+ys.length)*Enc.M4 α≤140737488355328) (h63:xs.length+ys.length≤9223372036854775807) (hb:base≤w.heap.size):
 ∃v' w',(Builtin.append_ #[t,t] ty #[v,u]).run P w= .ok v' w'∧Own H base w' e v' (xs++ys)∧w.grownBy w' v.ownBlock∧j4 H w'∧(v'.ownBlock=v.ownBlock∨v'.ownBlock=some w.heap.size):=by
 obtain⟨i,z,hi,hz,hsz,hby,hzs⟩:=T.inf
 obtain⟨cells,ho,hr,hf,hbv⟩:=hown
 by_cases hne:ys=[]
 ·subst hne
  obtain⟨a,c,rfl,_,_,_,_⟩:=hu
  cases a with
  |none=>
   have hrun:(Builtin.append_ #[t,t] ty #[v,.slice none ([]:List α).length c]).run P w= .ok v w:=by
    rcases ho.2 with⟨rfl,hn⟩|⟨g,cap,cur,rfl,hbg,hg,hnc,hcm,hcs,htake⟩
    ·simp[Builtin.append_,run_underlying T.und,sizeOf,typeInfo,hi,Builtin.lenOf,Builtin.firstCells]
    ·simp[Builtin.append_,run_underlying T.und,sizeOf,typeInfo,hi,Builtin.lenOf,Builtin.firstCells,hnc,storeCells]
   exact⟨v,w,hrun,⟨cells,by simpa using ho,by simpa using hr,hf,by simpa using hbv⟩,⟨rfl,rfl,rfl,fh0 _,fun _ _ _=>rfl⟩,hw,.inl rfl⟩
  |some a=>
   obtain⟨v',w',hrun,ho',hg,_,hat⟩:=run_append_own_at (P:=P) w base t ty e i z (Enc.sz α) (Enc.M4 α) T.und hi hz hsz hby hzs T.pos v xs.length cells ho a 0 c [] (by simp) (by simp) (by simp) (by simp only[maxLen];simpa using h63) (by simpa using hlen) hb
   refine⟨v',w',by simpa using hrun,⟨cells,by simpa using ho',by simpa using hr, ?_,by simpa using hbv⟩,hg,hw.grown hg hf,hat⟩
   intro k hk
   rcases hat with h|h
   ·exact hf k (h ▸ hk)
   ·rw[h]at hk;simp only[Option.some.injEq]at hk;exact hw.D6 (by omega)
 ·obtain⟨a,c,news,rfl,hl,hrn,hcell⟩:=hu.cells hne hw
  obtain⟨v',w',hrun,ho',hg,_,hat⟩:=run_append_own_at (P:=P) w base t ty e i z (Enc.sz α) (Enc.M4 α) T.und hi hz hsz hby hzs T.pos v xs.length cells ho a ys.length c news hl hcell hrn.one (by simp only[maxLen];omega) hlen hb
  refine⟨v',w',hrun,⟨cells++news,by rw[ff4];exact ho',hr.append hrn, ?_,by rw[ff4];exact hlen⟩,hg,hw.grown hg hf,hat⟩
  intro k hk
  rcases hat with h|h
  ·exact hf k (h ▸ hk)
  ·rw[h]at hk;simp only[Option.some.injEq]at hk;exact hw.D6 (by omega)
theorem cj4 (T:af2 P t e α) (ty:TypeId) (hown:Own H base w e v xs) {x:α} {cs:List Value} {te:TypeId} (hx:Enc.rep H x cs) (hw:j4 H w) (hlen:(xs.length+1)*Enc.M4 α≤140737488355328) (h63:xs.length+1≤9223372036854775807) (hb:base≤w.heap.size) (c:Nat):
 ∃v' w',(Builtin.append_ #[t,t] ty #[v,.slice (some ⟨w.heap.size,0,none⟩) 1 c]).run P (w.alloc (.cells cs.toArray te))= .ok v' w'∧Own H base w' e v' (xs++[x])∧(w.alloc (.cells cs.toArray te)).grownBy w' v.ownBlock∧j4 H w'∧(v'.ownBlock=v.ownBlock∨v'.ownBlock=some (w.heap.size+1)):=by
 obtain⟨i,z,hi,hz,hsz,hby,hzs⟩:=T.inf
 have hown1:=hown.alloc (.cells cs.toArray te)
 obtain⟨cells,ho,hr,hf,hbv⟩:=hown1
 have hw1:=hw.alloc (.cells cs.toArray te)
 obtain⟨v',w',hrun,ho',hg,_,hat⟩:=run_append_own_at (P:=P) (w.alloc (.cells cs.toArray te)) base t ty e i z (Enc.sz α) (Enc.M4 α) T.und hi hz hsz hby hzs T.pos v xs.length cells ho ⟨w.heap.size,0,none⟩ 1 c cs (by rw[Nat.one_mul];exact Enc.len hx)
  (fun j u hu=>by rw[Addr.add_lit,World.cell?_alloc_at _ _ _ _ rfl];simpa using hu) (Enc.one hx) (by simp only[maxLen];omega) hlen (by simp;omega)
 refine⟨v',w',hrun,⟨cells++cs,by rw[ff4];exact ho',hr.append (P6.single hx), ?_,by rw[ff4];exact hlen⟩,hg,hw1.grown hg hf,by simpa using hat⟩
 intro k hk
 rcases hat with h|h
 ·exact hf k (h ▸ hk)
 ·rw[h]at hk;simp only[World.size_alloc,Option.some.injEq]at hk;exact hw.D6 (by omega)
end
section
variable {α:Type} [Enc α] {P:Program} {H:j5} {base:Nat} {w:World} {t e:TypeId} {v:Value} {xs ys:List α} {ops:Array Oper} {rest:List Oper} {o:Oper} {a:Act} {Q:Exit→Act→World→Prop}
theorem cL0 (T:af2 P t e α) (hgd:o.guard=none) (s x:Operand) (ho:o.op= .call {callee:= .builtin .append,args:= #[s,x],argTypes:= #[t,t]})
 (hs:a.eval s=v) (hown:Own H base w e v xs) {u:Value} (hx:a.eval x=u) (hu:Sl H u ys) (hw:j4 H w) (hlen:(xs.length+ys.length)*Enc.M4 α≤140737488355328) (h63:xs.length+ys.length≤9223372036854775807) (hb:base≤w.heap.size)
 (h:∀v' w',Own H base w' e v' (xs++ys)→w.grownBy w' v.ownBlock→j4 H w'→(v'.ownBlock=v.ownBlock∨v'.ownBlock=some w.heap.size)→wpList P ops Q rest (a.put o.dst v') w'):wpList P ops Q (o::rest) a w:=by
 obtain⟨v',w',hr,h2,h3,h4,h5⟩:=cE4 (P:=P) T o.type hown hu hw hlen h63 hb
 refine wpList_plain hgd fun K hK=> ?_
 unfold Oper.wp execOp
 simp only[ho,resolve,invoke,builtin,Sem.run_bind,Sem.run_pure,Result.andThen_ok,List.map_toArray,List.map_cons,List.map_nil,hs,hx,hr]
 exact hK _ _ (h v' w' h2 h3 h4 h5)
theorem au7 (T:af2 P t e α) (hgd:o.guard=none) (s y:Operand) (ho:o.op= .call {callee:= .builtin .append,args:= #[s,y],argTypes:= #[t,t]})
 (hs:a.eval s=v) (hown:Own H base w e v xs) {x:α} {cs:List Value} {te:TypeId} {c:Nat} (hy:a.eval y= .slice (some ⟨w.heap.size,0,none⟩) 1 c) (hx:Enc.rep H x cs) (hw:j4 H w) (hlen:(xs.length+1)*Enc.M4 α≤140737488355328) (h63:xs.length+1≤9223372036854775807) (hb:base≤w.heap.size)
 (h:∀v' w',Own H base w' e v' (xs++[x])→(w.alloc (.cells cs.toArray te)).grownBy w' v.ownBlock→j4 H w'→(v'.ownBlock=v.ownBlock∨v'.ownBlock=some (w.heap.size+1))→wpList P ops Q rest (a.put o.dst v') w'):wpList P ops Q (o::rest) a (w.alloc (.cells cs.toArray te)):=by
 obtain⟨v',w',hr,h2,h3,h4,h5⟩:=cj4 (P:=P) (te:=te) T o.type hown hx hw hlen h63 hb c
 refine wpList_plain hgd fun K hK=> ?_
 unfold Oper.wp execOp
 simp only[ho,resolve,invoke,builtin,Sem.run_bind,Sem.run_pure,Result.andThen_ok,List.map_toArray,List.map_cons,List.map_nil,hs,hy,hr]
 exact hK _ _ (h v' w' h2 h3 h4 h5)
theorem af8 {t:TypeId} {w0:World} {H0:j5} (hgd:o.guard=none) (y:Operand) (ho:o.op= .box t y) (hx:Ext w0 H0 w H)
 (h:∀B w1 H1,D8 H H1→Ext w0 H0 w1 H1→H1 B=some (.cells (a.eval y).cells t (0,0))→w0.heap.size≤B→wpList P ops Q rest (a.put o.dst (.pointer (some ⟨B,0,none⟩))) w1):wpList P ops Q (o::rest) a w:=by
 refine wpList_plain hgd fun K hK=> ?_
 unfold Oper.wp execOp
 simp only[ho,Instr.box,newVar,newRow,Sem.run_bind,run_newObj,Sem.run_pure,Result.andThen_ok]
 have hn:H w.heap.size=none:=hx.holds.D6 (fh0 _)
 have hle:=hx.below.size
 exact hK _ _ (h w.heap.size (w.alloc (.cells (a.eval y).cells t)) (H.put w.heap.size (.cells (a.eval y).cells t (0,0))) (j5.L9 hn _)
  ((hx.alloc _).freeze hle (heap_alloc_new w _)) (j5.G7 _ _ _) hle)
end
theorem lift {H H':j5} (k:D8 H H') {p:World→Prop} (f:∀w,j4 H w→p w):∀w,j4 H' w→p w:=fun w h=>f w (h.mono k)
theorem D7 {H:j5} {b:Nat} {cs:Array Value} {t:TypeId} {fr:Nat × Nat} (h:H b=some (.cells cs t fr)) {w:World} (hw:j4 H w) (i:Nat):w.cell? ⟨b,i,none⟩=cs[i]? :=by
 simp[World.cell?,hw.at_ _ _ h]
structure WB (H:j5) (w0:World) where
 w:World
 h:j4 H w
 b:Below w0.heap.size w0 w
theorem WB.holds {H:j5} {w0:World} (x:WB H w0):j4 H x.w:=x.h
theorem WB.old {H:j5} {w0:World} (x:WB H w0) (b o:Nat) (hb:b<w0.heap.size):x.w.cell? ⟨b,o,none⟩=w0.cell? ⟨b,o,none⟩:=bh7 x.b b o hb
theorem E8 {P:Program} {id:Nat} {l:List Oper} {a:Act} {w:World} {Q:Exit→Act→World→Prop} (H:j5) (hm:P.follows .mixedOrders=true) (hB:Region.lexB .any l.toArray=true) (hw:j4 H w)
 (h:Nonempty (WB H w)→wpQuiet P l.toArray (fun w'=>∃x:WB H w,w'=x.w) (fun a'=>∀x:WB H w,Q .normal a' x.w) l a):(Code.region id l.toArray true).wp P Q a w:=by
 refine wp_region_quiet (C:=fun w'=>∃x:WB H w,w'=x.w) hm hB ⟨⟨w.drew,hw.drew,(Below.refl _ _).drew⟩,rfl⟩ ?_
 have e:(fun a'=>∀w',(∃x:WB H w,w'=x.w)→Q .normal a' w')=(fun a'=>∀x:WB H w,Q .normal a' x.w):=by
  funext a'
  exact propext ⟨fun k x=>k _ ⟨x,rfl⟩,fun k w' ⟨x,e⟩=>e ▸ k x⟩
 rw[e]
 exact h ⟨⟨w,hw,Below.refl _ _⟩⟩
theorem Calls.am7 {P:Program} {f:FuncId} {args:Array Value} {H:j5} {w0:World} {x:WB H w0} {v:Value} (h:Calls P f args x.w (I1 x.w v)):
 Calls P f args x.w fun e w''=>e= .returned v∧∃y:WB H w0,w''=y.w:=
 h.mono fun _e w'' ⟨he,hb⟩=>⟨he,⟨w'',x.h.below hb,x.b.trans (hb.mono x.b.size)⟩,rfl⟩
theorem Calls.dM1 {P:Program} {f:FuncId} {args:Array Value} {H:j5} {w0:World} {x:WB H w0} {v:Value} (h:Calls P f args x.w fun e w'=>e= .returned v∧x.w=w'):
 Calls P f args x.w fun e w''=>e= .returned v∧∃y:WB H w0,w''=y.w:=
 h.mono fun _ _ ⟨he,hb⟩=>⟨he,x,hb.symm⟩
theorem af6 {H:j5}:∀{xs:List Int} {cs:List Value},P6 H xs cs↔cs=xs.map (Value.int .i64)∧∀x∈xs,K8 x
 |[],cs=>by simp[P6]
 |x::xs,cs=>by
  constructor
  ·rintro⟨c1,c2,rfl,⟨rfl,hi⟩,h2⟩
   obtain⟨rfl,h3⟩:=af6.1 h2
   exact⟨by simp,by simpa using⟨hi,h3⟩⟩
  ·rintro⟨rfl,h⟩
   exact⟨[.int .i64 x],xs.map (Value.int .i64),by simp,⟨rfl,h x (by simp)⟩,af6.2 ⟨rfl,fun y hy=>h y (by simp[hy])⟩⟩
theorem Q4 {w:World} {g i:Nat} {cur:Array Value} {e:TypeId} (hg:w.heap[g]? =some (.cells cur e (0,0))) (v:Value):(w.setCell ⟨g,i,none⟩ v).heap[g]? =some (.cells (cur.setIfInBounds i v) e (0,0)):=by
 obtain⟨hlt,h'⟩:=Array.getElem?_eq_some_iff.1 hg
 show(w.heap.modify g _)[g]? =_
 rw[Array.getElem?_eq_getElem (by simpa using hlt),Array.getElem_modify_self,h']
 rfl
theorem Own.dM2 {H:j5} {base:Nat} {w:World} {e:TypeId} {v:Value} {xs:List Int} {i:Nat} {x:Int} (h:Own H base w e v xs) (hx:At xs i x):
 ∃g c,v= .slice (some ⟨g,0,none⟩) xs.length c∧(-9223372036854775808≤x∧x≤9223372036854775807)∧w.cell? ⟨g,i,none⟩=some (.int .i64 x)∧w.frozen? ⟨g,i,none⟩=false∧base≤g∧H g=none∧g<w.heap.size∧
  (∀y:Int,(-9223372036854775808≤y∧y≤9223372036854775807)→Own H base (w.setCell ⟨g,i,none⟩ (.int .i64 y)) e v (xs.set i y)):=by
 obtain⟨cells,⟨hl,ho⟩,hr,hf,hb⟩:=h
 obtain⟨rfl,hrange⟩:=af6.1 hr
 have hlt:=hx.lt
 rcases ho with⟨rfl,hn⟩|⟨g,cap,cur,rfl,hbg,hg,hnc,hcm,hcs,htake⟩
 ·omega
 ·simp only[Enc.sz,Nat.mul_one]at hl hcs htake
  have hcell:cur[i]? =some (.int .i64 x):=by
   have:(cur.toList.take xs.length)[i]? =some (.int .i64 x):=by rw[htake,List.getElem?_map,show xs[i]? =some x from hx];rfl
   rw[List.getElem?_take,if_pos hlt]at this
   simpa using this
  refine⟨g,cap,rfl,hrange x hx.mem,by rw[cell_of_row w g i cur e (0,0) hg];exact hcell,by simp[World.frozen?,hg],hbg,hf g rfl,(Array.getElem?_eq_some_iff.1 hg).1,fun y hy=> ?_⟩
  refine⟨(xs.set i y).map (Value.int .i64),⟨by simp[Enc.sz],.inr ⟨g,cap,cur.setIfInBounds i (.int .i64 y),by rw[List.length_set],hbg,Q4 hg _,by rw[List.length_set];exact hnc,hcm,by simp[Enc.sz,hcs], ?_⟩⟩,
   af6.2 ⟨rfl,fun z hz=>by rcases List.mem_or_eq_of_mem_set hz with hz|rfl;exact hrange z hz;exact hy⟩,hf,by rw[List.length_set];exact hb⟩
  simp only[Enc.sz,Nat.mul_one,List.length_set,Array.toList_setIfInBounds]
  rw[List.take_set,htake,List.map_set]
end
section
open Go.RowKit
section
variable {α:Type} [Enc α] {P:Program} {H:j5} {base:Nat} {w:World} {t e:TypeId} {v:Value} {xs ys:List α} {ops:Array Oper} {o:Oper} {a:Act} {Q:Exit→Act→World→Prop} {K:Act→World→Prop} {E:Prop}
theorem cj5 (T:af2 P t e α) (hgd:o.guard=none) (s x:Operand) (ho:o.op= .call {callee:= .builtin .append,args:= #[s,x],argTypes:= #[t,t]})
 (hs:a.eval s=v) (hown:Own H base w e v xs) {u:Value} (hx:a.eval x=u) (hu:Sl H u ys) (hw:j4 H w) (hlen:(xs.length+ys.length)*Enc.M4 α≤140737488355328) (h63:xs.length+ys.length≤9223372036854775807) (hb:base≤w.heap.size)
 (h:∀v' w',Own H base w' e v' (xs++ys)→w.grownBy w' v.ownBlock→j4 H w'→(v'.ownBlock=v.ownBlock∨v'.ownBlock=some w.heap.size)→K (a.put o.dst v') w'):if Region.wanted o (yielded ops a.tmps)=true then Oper.wp P o a w K Q else E:=by
 obtain⟨v',w',hr,h2,h3,h4,h5⟩:=cE4 (P:=P) T o.type hown hu hw hlen h63 hb
 rw[if_pos (by simp[Region.wanted,hgd])]
 unfold Oper.wp execOp
 simp only[ho,resolve,invoke,builtin,Sem.run_bind,Sem.run_pure,Result.andThen_ok,List.map_toArray,List.map_cons,List.map_nil,hs,hx,hr]
 exact h v' w' h2 h3 h4 h5
theorem bH0 (T:af2 P t e α) (ty:TypeId) (hown:Own H base w e v xs) {x:α} {cs:List Value} {g:Nat} (hx:Enc.rep H x cs) (hcs:∀(j:Nat) (u:Value),cs[j]? =some u→w.cell? ⟨g,j,none⟩=some u) (hw:j4 H w) (hlen:(xs.length+1)*Enc.M4 α≤140737488355328) (h63:xs.length+1≤9223372036854775807) (hb:base≤w.heap.size) (c:Nat):
 ∃v' w',(Builtin.append_ #[t,t] ty #[v,.slice (some ⟨g,0,none⟩) 1 c]).run P w= .ok v' w'∧Own H base w' e v' (xs++[x])∧w.grownBy w' v.ownBlock∧j4 H w'∧(v'.ownBlock=v.ownBlock∨v'.ownBlock=some w.heap.size):=by
 obtain⟨i,z,hi,hz,hsz,hby,hzs⟩:=T.inf
 obtain⟨cells,ho,hr,hf,hbv⟩:=hown
 obtain⟨v',w',hrun,ho',hg,_,hat⟩:=run_append_own_at (P:=P) w base t ty e i z (Enc.sz α) (Enc.M4 α) T.und hi hz hsz hby hzs T.pos v xs.length cells ho ⟨g,0,none⟩ 1 c cs (by rw[Nat.one_mul];exact Enc.len hx)
  (fun j u hu=>by rw[Addr.add_lit,Nat.zero_add];exact hcs j u hu) (Enc.one hx) (by simp only[maxLen];omega) hlen hb
 refine⟨v',w',hrun,⟨cells++cs,by rw[ff4];exact ho',hr.append (P6.single hx), ?_,by rw[ff4];exact hlen⟩,hg,hw.grown hg hf,hat⟩
 intro k hk
 rcases hat with h|h
 ·exact hf k (h ▸ hk)
 ·rw[h]at hk;simp only[Option.some.injEq]at hk;exact hw.D6 (by omega)
theorem aY8 (T:af2 P t e α) (hgd:o.guard=none) (s y:Operand) (ho:o.op= .call {callee:= .builtin .append,args:= #[s,y],argTypes:= #[t,t]})
 (hs:a.eval s=v) (hown:Own H base w e v xs) {x:α} {cs:List Value} {g c:Nat} (hy:a.eval y= .slice (some ⟨g,0,none⟩) 1 c) (hx:Enc.rep H x cs) (hcs:∀(j:Nat) (u:Value),cs[j]? =some u→w.cell? ⟨g,j,none⟩=some u) (hw:j4 H w) (hlen:(xs.length+1)*Enc.M4 α≤140737488355328) (h63:xs.length+1≤9223372036854775807) (hb:base≤w.heap.size)
 (h:∀v' w',Own H base w' e v' (xs++[x])→w.grownBy w' v.ownBlock→j4 H w'→(v'.ownBlock=v.ownBlock∨v'.ownBlock=some w.heap.size)→K (a.put o.dst v') w'):if Region.wanted o (yielded ops a.tmps)=true then Oper.wp P o a w K Q else E:=by
 obtain⟨v',w',hr,h2,h3,h4,h5⟩:=bH0 (P:=P) T o.type hown hx hcs hw hlen h63 hb c
 rw[if_pos (by simp[Region.wanted,hgd])]
 unfold Oper.wp execOp
 simp only[ho,resolve,invoke,builtin,Sem.run_bind,Sem.run_pure,Result.andThen_ok,List.map_toArray,List.map_cons,List.map_nil,hs,hy,hr]
 exact h v' w' h2 h3 h4 h5
theorem Own.empty (H:j5) (hw:j4 H w) (hb:base≤w.heap.size) (_e':TypeId):Own H base (w.alloc (.cells #[] e)) e (.slice (some ⟨w.heap.size,0,none⟩) 0 0) ([]:List α):=
 ⟨[],World.ownsRow_made w #[] 0 hb (by simp[maxLen]) (by simp),rfl,fun k hk=>by simp[Value.ownBlock]at hk;exact hw.D6 (by omega),by simp⟩
end
section
variable {α:Type} [Enc α] {H:j5} {base:Nat} {w:World} {e:TypeId} {v:Value} {xs:List α}
theorem Own.emptyAt {g:Nat} (hg:w.heap[g]? =some (.cells #[] e (0,0))) (hb:base≤g) (hH:H g=none):Own H base w e (.slice (some ⟨g,0,none⟩) 0 0) ([]:List α):=
 ⟨[],⟨by simp,.inr ⟨g,0,#[],rfl,hb,hg,by simp,by simp[maxLen],by simp,by simp⟩⟩,rfl,fun k hk=>by simp[Value.ownBlock]at hk;subst hk;exact hH,by simp⟩
theorem Own.weaken {base':Nat} (h:Own H base' w e v xs) (hb:base≤base'):Own H base w e v xs:=by
 obtain⟨cells,⟨hl,ho⟩,hr⟩:=h
 refine⟨cells,⟨hl, ?_⟩,hr⟩
 rcases ho with hn|⟨g,cap,cur,rfl,hbg,rest⟩
 ·exact .inl hn
 ·exact .inr ⟨g,cap,cur,rfl,fh1 hb hbg,rest⟩
theorem Ext.back {w0 w1 w2:World} {H0 H1 H2:j5} (h:Ext w0 H0 w2 H2) (k:Ext w0 H0 w1 H1) (hle:D8 H1 H2):Ext w0 H0 w2 H1:=⟨h.below,h.holds.mono hle,k.same⟩
def bh8 (w:World) (H:j5) (e:TypeId) (xs:List α) (f:Ending) (w':World):Prop:=
 ∃v H',f= .returned v∧Ext w H w' H'∧Own H' w.heap.size w' e v xs
end
theorem Ext.lit {α:Type} [Enc α] {w0 w:World} {H0 H:j5} {xs:List α} {cs:List Value} (hx:Ext w0 H0 w H) (hr:P6 H xs cs) (te:TypeId) (hb:xs.length*Enc.M4 α≤140737488355328) (hc:xs.length≤9223372036854775807):
 ∃H2,D8 H H2∧Ext w0 H0 (w.alloc (.cells cs.toArray te)) H2∧Sl H2 (.slice (some ⟨w.heap.size,0,none⟩) xs.length xs.length) xs:=by
 have hn:H w.heap.size=none:=hx.holds.D6 (fh0 _)
 have hle:=j5.L9 hn (.cells cs.toArray te (0,0))
 refine⟨_,hle,(hx.alloc (.cells cs.toArray te)).freeze hx.below.size (heap_alloc_new w _),_,_,rfl,fh0 _,hc,hb, ?_⟩
 refine .inr ⟨w.heap.size,0,cs.toArray,te,(0,0),rfl,j5.G7 _ _ _, ?_, ?_⟩
 ·simp[hr.len]
 ·simp only[ff6]
  rw[←hr.len,List.take_length]
  exact hr.mono hle
theorem one_cell {W:World} {g:Nat} {x:Value} (h0:W.cell? ⟨g,0,none⟩=some x):∀(j:Nat) (u:Value),[x][j]? =some u→W.cell? ⟨g,j,none⟩=some u:=by
 intro j u hu
 cases j with
 |zero=>simp at hu;subst hu;exact h0
 |succ j=>simp at hu
section
variable {α:Type} [Enc α] {P:Program} {H H0:j5} {w w0:World} {t e:TypeId} {v:Value} {xs ys:List α} {ops:Array Oper} {o:Oper} {a:Act} {Q:Exit→Act→World→Prop} {K:Act→World→Prop} {E:Prop} {rest:List Oper}
theorem P7 (T:af2 P t e α) (hgd:o.guard=none) (s x:Operand) (ho:o.op= .call {callee:= .builtin .append,args:= #[s,x],argTypes:= #[t,t]}) (hX:Ext w0 H0 w H)
 (hs:a.eval s=v) (hown:Own H w0.heap.size w e v xs) {u:Value} (hx:a.eval x=u) (hu:Sl H u ys) (hlen:(xs.length+ys.length)*Enc.M4 α≤140737488355328) (h63:xs.length+ys.length≤9223372036854775807)
 (h:∀v' w',Own H w0.heap.size w' e v' (xs++ys)→Ext w0 H0 w' H→j4 H w'→w.grownBy w' v.ownBlock→K (a.put o.dst v') w'):if Region.wanted o (yielded ops a.tmps)=true then Oper.wp P o a w K Q else E:=
 cj5 T hgd s x ho hs hown hx hu hX.holds hlen h63 hX.below.size fun v' w' h1 h2 h3 _=>h v' w' h1 (hX.grown h2 (fun k hk=>(hown.lt k hk).1) (fun k hk=>hown.free k hk)) h3 h2
theorem aj2 (T:af2 P t e α) (hgd:o.guard=none) (s x:Operand) (ho:o.op= .call {callee:= .builtin .append,args:= #[s,x],argTypes:= #[t,t]}) (hX:Ext w0 H0 w H)
 (hs:a.eval s=v) (hown:Own H w0.heap.size w e v xs) {u:Value} (hx:a.eval x=u) (hu:Sl H u ys) (hlen:(xs.length+ys.length)*Enc.M4 α≤140737488355328) (h63:xs.length+ys.length≤9223372036854775807)
 (h:∀v' w',Own H w0.heap.size w' e v' (xs++ys)→Ext w0 H0 w' H→j4 H w'→w.grownBy w' v.ownBlock→wpList P ops Q rest (a.put o.dst v') w'):wpList P ops Q (o::rest) a w:=
 cL0 T hgd s x ho hs hown hx hu hX.holds hlen h63 hX.below.size fun v' w' h1 h2 h3 _=>h v' w' h1 (hX.grown h2 (fun k hk=>(hown.lt k hk).1) (fun k hk=>hown.free k hk)) h3 h2
theorem cj6 (T:af2 P t e α) (hgd:o.guard=none) (s y:Operand) (ho:o.op= .call {callee:= .builtin .append,args:= #[s,y],argTypes:= #[t,t]}) (hX:Ext w0 H0 w H)
 (hs:a.eval s=v) (hown:Own H w0.heap.size w e v xs) {x:α} {cs:List Value} {te:TypeId} {c:Nat} (hy:a.eval y= .slice (some ⟨w.heap.size,0,none⟩) 1 c) (hx:Enc.rep H x cs) (hlen:(xs.length+1)*Enc.M4 α≤140737488355328) (h63:xs.length+1≤9223372036854775807)
 (h:∀v' w',Own H w0.heap.size w' e v' (xs++[x])→Ext w0 H0 w' H→j4 H w'→wpList P ops Q rest (a.put o.dst v') w'):wpList P ops Q (o::rest) a (w.alloc (.cells cs.toArray te)):=
 au7 T hgd s y ho hs hown hy hx hX.holds hlen h63 hX.below.size fun v' w' h1 h2 h3 _=>h v' w' h1 ((hX.alloc _).grown h2 (fun k hk=>(hown.lt k hk).1) (fun k hk=>hown.free k hk)) h3
end
theorem bs2 {P:Program} {H H0:j5} {w w0:World} {t e:TypeId} {v:Value} {xs:List Int} {ops:Array Oper} {o:Oper} {a:Act} {Q:Exit→Act→World→Prop} {rest:List Oper} {te:TypeId} {c:Nat}
 (T:af2 P t e Int) (s y:Operand) (hX:Ext w0 H0 w H) (hown:Own H w0.heap.size w e v xs) (x:Int) (hx:K8 x) (hlen:xs.length≤1000000000)
 (hgd:o.guard=none) (ho:o.op= .call {callee:= .builtin .append,args:= #[s,y],argTypes:= #[t,t]}) (hs:a.eval s=v) (hy:a.eval y= .slice (some ⟨w.heap.size,0,none⟩) 1 c)
 (h:∀v' w',Own H w0.heap.size w' e v' (xs++[x])→Ext w0 H0 w' H→j4 H w'→wpList P ops Q rest (a.put o.dst v') w'):wpList P ops Q (o::rest) a (w.alloc (.cells #[.int .i64 x] te)):=
 cj6 (cs:=[.int .i64 x]) T hgd s y ho hX hs hown hy ⟨rfl,hx⟩ (by simp[Enc.M4];omega) (by omega) h
end
section
open Go.RowKit
theorem Own.X7 {α:Type} [Enc α] {H:j5} {base:Nat} {w:World} {e:TypeId} {v:Value} {xs:List α} (h:Own H base w e v xs) {k:Nat} (hk:v.ownBlock=some k):∃cur,w.heap[k]? =some (.cells cur e (0,0)):=by
 obtain⟨cells,⟨_,ho⟩,_⟩:=h
 rcases ho with⟨rfl,_⟩|⟨g,cap,cur,rfl,_,hg,_⟩
 ·simp[Value.ownBlock]at hk
 ·simp[Value.ownBlock]at hk;subst hk;exact⟨cur,hg⟩
theorem Own.apart {α β:Type} [Enc α] [Enc β] {H H':j5} {base base':Nat} {w:World} {e e':TypeId} {v u:Value} {xs:List α} {ys:List β} (h:Own H base w e v xs) (k:Own H' base' w e' u ys) (ne:e≠e'):v.ownBlock=none∨v.ownBlock≠u.ownBlock:=by
 cases hv:v.ownBlock with
 |none=>exact .inl rfl
 |some b=>
  refine .inr fun hu=> ?_
  obtain⟨c1,h1⟩:=h.X7 hv
  obtain⟨c2,h2⟩:=k.X7 hu.symm
  rw[h1]at h2
  simp only[Option.some.injEq,Obj.cells.injEq]at h2
  exact ne h2.2.1
theorem Own.cL1 {α β:Type} [Enc α] [Enc β] {H H':j5} {base base':Nat} {w w':World} {e e':TypeId} {v u:Value} {xs:List α} {ys:List β} (k:Own H' base' w e' u ys) (hg:w.grownBy w' u.ownBlock) (ne:e≠e') (h:Own H base w e v xs):Own H base w' e v xs:=
 h.kept hg (h.apart k ne)
theorem Own.cj7 {α:Type} [Enc α] {H:j5} {base g:Nat} {w:World} {e:TypeId} (hg:g=w.heap.size) (hw:j4 H w) (hb:base≤w.heap.size):Own H base (w.alloc (.cells #[] e)) e (.slice (some ⟨g,0,none⟩) 0 0) ([]:List α):=by
 subst hg;exact Own.empty H hw hb e
section
variable {α:Type} [Enc α] {P:Program} {H H0:j5} {w w0:World} {base:Nat} {t e:TypeId} {v:Value} {ys:List α} {ops:Array Oper} {o:Oper} {a:Act} {Q:Exit→Act→World→Prop} {K:Act→World→Prop} {E:Prop}
theorem bs3 (T:af2 P t e α) (hgd:o.guard=none) (s x:Operand) (ho:o.op= .call {callee:= .builtin .append,args:= #[s,x],argTypes:= #[t,t]}) (hX:Ext w0 H0 w H) (hbase:w0.heap.size≤base)
 (hs:a.eval s=v) (hown:Own H base w e v ([]:List α)) {u:Value} (hx:a.eval x=u) (hu:Sl H u ys) (hb:base≤w.heap.size)
 (h:∀v' w',Own H base w' e v' ys→Ext w0 H0 w' H→j4 H w'→base≤w'.heap.size→
  Below base w w'→(∀(β:Type) [Enc β] (e':TypeId) (u':Value) (zs:List β),e'≠e→Own H base w e' u' zs→Own H base w' e' u' zs)→K (a.put o.dst v') w'):if Region.wanted o (yielded ops a.tmps)=true then Oper.wp P o a w K Q else E:=
 cj5 T hgd s x ho hs hown hx hu hX.holds (by have:=hu.bytes;simpa using this) (by have:=hu.le;simpa using this) hb fun v' w' h1 h2 h3 _=>
  h v' w' (by simpa using h1) (hX.grown h2 (fun k hk=>fh1 hbase (hown.lt k hk).1) (fun k hk=>hown.free k hk)) h3 (fh1 hb h2.size) ((Below.refl _ _).grown h2 hb (fun k hk=>(hown.lt k hk).1))
    (fun _ _ _ _ _ ne hz=>Own.cL1 hown h2 ne hz)
end
def Rdy (rb:Nat) (t:TypeId) (w:World):Prop:=∃a b c d:Value,w.heap[rb]? =some (.cells #[a,b,c,d] t (0,0))
theorem Rdy.drew {rb:Nat} {t:TypeId} {w:World} (h:Rdy rb t w):Rdy rb t w.drew:=h
theorem Rdy.lt {rb:Nat} {t:TypeId} {w:World} (h:Rdy rb t w):rb<w.heap.size:=by
 obtain⟨a,b,c,d,e⟩:=h
 exact(Array.getElem?_eq_some_iff.1 e).1
theorem Rdy.alloc {rb:Nat} {t:TypeId} {w:World} (h:Rdy rb t w) (o:Obj):Rdy rb t (w.alloc o):=by
 have hl:=h.lt
 obtain⟨a,b,c,d,e⟩:=h
 exact⟨a,b,c,d,(heap_alloc_old w o hl).trans e⟩
theorem Rdy.below {rb base:Nat} {t:TypeId} {w w':World} (h:Rdy rb t w) (hb:Below base w w') (hrb:rb<base):Rdy rb t w':=by
 obtain⟨a,b,c,d,e⟩:=h
 exact⟨a,b,c,d,(hb.block rb hrb).trans e⟩
theorem Rdy.setCell {rb:Nat} {t:TypeId} {w:World} (h:Rdy rb t w) (i:Nat) (hi:i<4) (v:Value):Rdy rb t (w.setCell ⟨rb,i,none⟩ v):=by
 obtain⟨a,b,c,d,e⟩:=h
 have:=Q4 (i:=i) e v
 match i,hi with
 |0,_=>exact⟨v,b,c,d,by simpa using this⟩
 |1,_=>exact⟨a,v,c,d,by simpa using this⟩
 |2,_=>exact⟨a,b,v,d,by simpa using this⟩
 |3,_=>exact⟨a,b,c,v,by simpa using this⟩
theorem Rdy.cell {rb:Nat} {t:TypeId} {w:World} (h:Rdy rb t w) (i:Nat) (hi:i<4):∃v,w.cell? ⟨rb,i,none⟩=some v:=by
 obtain⟨a,b,c,d,e⟩:=h
 rw[cell_of_row w rb i _ _ _ e]
 exact⟨_,Array.getElem?_eq_getElem (by simpa using hi)⟩
theorem Rdy.fz {rb:Nat} {t:TypeId} {w:World} (h:Rdy rb t w) (i:Nat):w.frozen? ⟨rb,i,none⟩=false:=by
 obtain⟨a,b,c,d,e⟩:=h
 simp[World.frozen?,e]
theorem Rdy.row {rb:Nat} {t:TypeId} {w:World} (h:Rdy rb t w) (u1 u2 u3 u4:Value):((((w.setCell ⟨rb,0,none⟩ u1).setCell ⟨rb,1,none⟩ u2).setCell ⟨rb,2,none⟩ u3).setCell ⟨rb,3,none⟩ u4).heap[rb]? =some (.cells #[u1,u2,u3,u4] t (0,0)):=by
 obtain⟨a,b,c,d,e⟩:=h
 have h1:=Q4 (i:=0) e u1
 have h2:=Q4 (i:=1) h1 u2
 have h3:=Q4 (i:=2) h2 u3
 have h4:=Q4 (i:=3) h3 u4
 simpa using h4
end
section
open Go.RowKit
def bT2 (m:ah4) (cs:List Value):Prop:=cs=[.int .i64 m.r,.int .i64 m.p,.int .i64 m.s]∧(-9223372036854775808≤m.r∧m.r≤9223372036854775807)∧(-9223372036854775808≤m.p∧m.p≤9223372036854775807)∧(-9223372036854775808≤m.s∧m.s≤9223372036854775807)
def bT3 (b:ar8) (cs:List Value):Prop:=cs=[.int .i64 b.t,.int .i64 b.h,.int .i64 b.e]∧(-9223372036854775808≤b.t∧b.t≤9223372036854775807)∧(-9223372036854775808≤b.h∧b.h≤9223372036854775807)∧(-9223372036854775808≤b.e∧b.e≤9223372036854775807)
instance:Enc ah4 where
 sz:=3
 M4:=24
 rep:=fun _ m cs=>bT2 m cs
 len:=fun h=>by rw[h.1];rfl
 mono:=fun _ h=>h
 one:=fun h u hu=>by rw[h.1]at hu;simp at hu;rcases hu with rfl|rfl|rfl<;>rfl
instance:Enc ar8 where
 sz:=3
 M4:=24
 rep:=fun _ m cs=>bT3 m cs
 len:=fun h=>by rw[h.1];rfl
 mono:=fun _ h=>h
 one:=fun h u hu=>by rw[h.1]at hu;simp at hu;rcases hu with rfl|rfl|rfl<;>rfl
theorem Sl.aw2 {H:j5} {v:Value} {xs:List ah4} {k:Nat} {x:ah4} (h:Sl H v xs) (hx:At xs k x):
 ∃b o c,v= .slice (some ⟨b,o,none⟩) xs.length c∧((-9223372036854775808≤x.r∧x.r≤9223372036854775807)∧(-9223372036854775808≤x.p∧x.p≤9223372036854775807)∧(-9223372036854775808≤x.s∧x.s≤9223372036854775807))∧
  (∀w,j4 H w→w.cell? ⟨b,o+k*3,none⟩=some (.int .i64 x.r))∧(∀w,j4 H w→w.cell? ⟨b,o+k*3+1,none⟩=some (.int .i64 x.p))∧(∀w,j4 H w→w.cell? ⟨b,o+k*3+2,none⟩=some (.int .i64 x.s)):=by
 obtain⟨b,o,c,ds,hv,⟨hd,hi⟩,hc⟩:=h.get hx
 refine⟨b,o,c,hv,hi,fun w hw=> ?_,fun w hw=> ?_,fun w hw=> ?_⟩
 ·exact hc w hw 0 _ (by rw[hd];rfl)
 ·exact hc w hw 1 _ (by rw[hd];rfl)
 ·exact hc w hw 2 _ (by rw[hd];rfl)
theorem Sl.X9 {H:j5} {v:Value} {xs:List ar8} {k:Nat} {x:ar8} (h:Sl H v xs) (hx:At xs k x):
 ∃b o c,v= .slice (some ⟨b,o,none⟩) xs.length c∧((-9223372036854775808≤x.t∧x.t≤9223372036854775807)∧(-9223372036854775808≤x.h∧x.h≤9223372036854775807)∧(-9223372036854775808≤x.e∧x.e≤9223372036854775807))∧
  (∀w,j4 H w→w.cell? ⟨b,o+k*3,none⟩=some (.int .i64 x.t))∧(∀w,j4 H w→w.cell? ⟨b,o+k*3+1,none⟩=some (.int .i64 x.h))∧(∀w,j4 H w→w.cell? ⟨b,o+k*3+2,none⟩=some (.int .i64 x.e)):=by
 obtain⟨b,o,c,ds,hv,⟨hd,hi⟩,hc⟩:=h.get hx
 refine⟨b,o,c,hv,hi,fun w hw=> ?_,fun w hw=> ?_,fun w hw=> ?_⟩
 ·exact hc w hw 0 _ (by rw[hd];rfl)
 ·exact hc w hw 1 _ (by rw[hd];rfl)
 ·exact hc w hw 2 _ (by rw[hd];rfl)
structure Hou (H:j5) (vm vb vt:Value) (h:A9):Prop where
 m:Sl H vm h.ms
 b:Sl H vb h.bs
 t:Sl H vt h.ts
 c: -9223372036854775808≤h.ch∧h.ch≤9223372036854775807
abbrev U2 (vm vb vt:Value) (h:A9):Value:= .agg #[vm,vb,vt,.int .i64 h.ch]
theorem Hou.mono {H H':j5} (k:D8 H H') {vm vb vt:Value} {h:A9} (x:Hou H vm vb vt h):Hou H' vm vb vt h:=
 ⟨x.m.mono k,x.b.mono k,x.t.mono k,x.c⟩
theorem R6 {H:j5} {B:Nat} {vm vb vt:Value} {h:A9} {t:TypeId} (e:H B=some (.cells (U2 vm vb vt h).cells t (0,0))):
 (∀w,j4 H w→w.cell? ⟨B,0,none⟩=some vm)∧(∀w,j4 H w→w.cell? ⟨B,1,none⟩=some vb)∧(∀w,j4 H w→w.cell? ⟨B,2,none⟩=some vt)∧(∀w,j4 H w→w.cell? ⟨B,3,none⟩=some (.int .i64 h.ch)):=
 ⟨fun _ hw=>D7 e hw 0,fun _ hw=>D7 e hw 1,fun _ hw=>D7 e hw 2,fun _ hw=>D7 e hw 3⟩
theorem ag8:af2 Tryz.prog 24 3 Int:= .mk' (.int .i64 0) Tryz.underlying24 (by kernel_rfl) rfl (by decide)
theorem eList:af2 Tryz.prog 28 24 (List Int):= .mk' (.slice none 0 0) Tryz.underlying28 (by kernel_rfl) rfl (by decide)
theorem aY9:af2 Tryz.prog 22 94 ah4:= .mk' (.agg #[.int .i64 0,.int .i64 0,.int .i64 0]) Tryz.underlying22 (by kernel_rfl) rfl (by decide)
theorem aZ0:af2 Tryz.prog 23 127 ar8:= .mk' (.agg #[.int .i64 0,.int .i64 0,.int .i64 0]) Tryz.underlying23 (by kernel_rfl) rfl (by decide)
end
section
open Go.RowKit
attribute [local go_sem] j4.drew j4.alloc j4.drewN WB.holds
theorem aD4 (n lo hi:Int) (w:World):
 Calls Tryz.prog 26 #[.int .i64 n,.int .i64 lo,.int .i64 hi] w fun e w'=>e= .returned (.bool (within n lo hi))∧w=w':=by
 go_enter Tryz.func26,Tryz.ntmps26
 go_wp2
 all_goals
  go_ret
  simp[within]
 all_goals (intros;omega)
theorem aV1 (va vb:Value) (xs ys:List Int) (H:j5) (w:World) (hw:j4 H w) (ha:Sl H va xs) (hb:Sl H vb ys):
 Calls Tryz.prog 86 #[va,vb] w (I1 w (.bool (decide (xs=ys)))):=by
 obtain⟨aa,ca,rfl,ha1,ha2⟩:=ha.form
 obtain⟨ab,cb,rfl,hb1,hb2⟩:=hb.form
 cases hl:((xs.length:Int) != ys.length)
 ·have HL:Hid (xs.length=ys.length):=fe6 (by have:=bne_eq_false_iff_eq.1 hl;omega)
  go_enter Tryz.func86,Tryz.ntmps86
  go_wp2
  go_loopw [4,5] (fun _ i wr=>∃k:Nat,k≤xs.length∧i= .int .i64 k∧xs.take k=ys.take k∧Ext w H wr H) (fun _ i _=>xs.length-(intOf i).toNat)
  case atStart=>exact⟨0,fh3 _,rfl,rfl,Ext.refl hw⟩
  case round=>
   obtain⟨k,hk,rfl,hok,E5⟩:=hrel
   have hwr:=E5.holds
   replace hok:=fe6 hok
   by_cases hlt:k<xs.length
   ·obtain⟨x,hxk⟩:=At.mk hlt
    have hlt2:k<ys.length:=by rw[←HL.out];exact hlt
    obtain⟨y,hyk⟩:=At.mk hlt2
    obtain⟨b,o,c,he,hi,hr⟩:=ha.int hxk
    cases he
    obtain⟨b',o',c',he,hi',hr'⟩:=hb.int hyk
    cases he
    go_wp2
    go_quiet (fail)
    go_wp2
    ·go_ret
     exact⟨M0 (by symm;rw[decide_eq_false_iff_not];rintro rfl;have:=hxk.uniq hyk;subst this;simp_all),(E5.drewN _).below⟩
    ·go_roundw
     case rel=>exact⟨k+1,by omega,by go_num,by rw[hxk.take,hyk.take,hok.out,show x=y by simp_all],E5.drewN _⟩
     case measure=>simp[intOf];omega
   ·go_wp2
    go_ret
    have h1:xs.take k=ys.take k:=hok.out
    rw[fg7 (by omega),fg7 (by rw[←HL.out];omega)]at h1
    exact⟨M0 (by simp[h1]),E5.below⟩
 ·go_enter Tryz.func86,Tryz.ntmps86
  go_wp2
  go_ret
  exact⟨M0 (by symm;rw[decide_eq_false_iff_not];rintro rfl;simp at hl),Below.refl _ _⟩
end
section
open Go.RowKit
attribute [local go_sem] j4.drew j4.alloc j4.drewN WB.holds
theorem az8 (n lo hi:Int) (w:World):
 Calls Tryz.prog 113 #[.int .i64 n,.int .i64 lo,.int .i64 hi] w fun e w'=>e= .returned (.bool (within n lo hi))∧w=w':=by
 go_enter Tryz.func113,Tryz.ntmps113
 go_wp2_with(go_at_call 26;refine(aD4 _ _ _ _).mono ?_;rintro e w' ⟨rfl,rfl⟩)
 go_ret
 exact⟨rfl,rfl⟩
theorem cj8 (vm vb vt:Value) (h:A9) (n:Int) (H:j5) (w:World) (hw:j4 H w) (hh:Hou H vm vb vt h):
 Calls Tryz.prog 114 #[U2 vm vb vt h,.int .i64 n] w (I1 w (.bool (within n 0 ((h.ts.length:Int)-1)))):=by
 obtain⟨at',ct,rfl,ht1,ht2⟩:=hh.t.form
 go_enter Tryz.func114,Tryz.ntmps114
 go_wp2_with(first|(refine af8 rfl _ rfl (Ext.refl hw) ?_;intro B w1 H1 hle hx hB hBw;obtain⟨hc0,hc1,hc2,hc3⟩:=R6 hB;clear hB hw;have hw1:=hx.holds)|(go_at_call 113;refine(az8 _ _ _ _).mono ?_;rintro e w' ⟨rfl,rfl⟩))
 go_ret
 exact⟨rfl,hx.below⟩
theorem cL2 (vm vb vt:Value) (h:A9) (H:j5) (w:World) (hw:j4 H w) (hh:Hou H vm vb vt h):
 Calls Tryz.prog 74 #[U2 vm vb vt h] w (I1 w (.int .i64 (aq2 (valid h)))):=by
 obtain⟨am,cm,rfl,hm1,hm2⟩:=hh.m.form
 obtain⟨ab,cb,rfl,hb1,hb2⟩:=hh.b.form
 obtain⟨at',ct,rfl,ht1,ht2⟩:=hh.t.form
 have hch:=hh.c
 have HE:¬(within (h.ms.length:Int) 1 3=true∧(h.ts.length:Int)≤4∧(h.bs.length:Int)≤5∧within h.ch 0 9=true)→aq2 (valid h)=40:=
  fun hgo=>aw1 fun hv=>hgo ⟨within_iff.2 ⟨by have:=hv.m1;omega,by have:=hv.m3;omega⟩,by have:=hv.t4;omega,by have:=hv.b5;omega,hv.ch⟩
 rcases(by cases within (h.ms.length:Int) 1 3<;>cases within h.ch 0 9<;>simp<;>omega:within (h.ms.length:Int) 1 3=false∨(within (h.ms.length:Int) 1 3=true∧(4:Int)<h.ts.length)∨(within (h.ms.length:Int) 1 3=true∧(h.ts.length:Int)≤4∧(5:Int)<h.bs.length)∨
  (within (h.ms.length:Int) 1 3=true∧(h.ts.length:Int)≤4∧(h.bs.length:Int)≤5∧within h.ch 0 9=false)∨(within (h.ms.length:Int) 1 3=true∧(h.ts.length:Int)≤4∧(h.bs.length:Int)≤5∧within h.ch 0 9=true))with g1|⟨g1,g2⟩|⟨g1,g2,g3⟩|⟨g1,g2,g3,g4⟩|⟨g1,g2,g3,g4⟩
 iterate 4
  ·replace HE:=fe6 (HE (by rintro⟨k1,k2,k3,k4⟩;first|omega|(rw[k1]at g1;cases g1;done)|(rw[k4]at g4;cases g4;done)))
   go_enter Tryz.func74,Tryz.ntmps74
   go_wp2_with(first|(refine af8 rfl _ rfl (Ext.refl hw) ?_;intro B w1 H1 hle hx hB hBw;obtain⟨hc0,hc1,hc2,hc3⟩:=R6 hB;clear hB hw;have hw1:=hx.holds)|(go_at_call 113;refine(az8 _ _ _ _).mono ?_;rintro e w' ⟨rfl,rfl⟩))
   go_ret
   exact⟨an6 HE.out.symm,hx.below⟩
 clear HE
 go_enter Tryz.func74,Tryz.ntmps74
 go_wp2_with(first|(refine af8 rfl _ rfl (Ext.refl hw) ?_;intro B w1 H1 hle hx hB hBw;obtain⟨hc0,hc1,hc2,hc3⟩:=R6 hB;clear hB hw;have hw1:=hx.holds)|(go_at_call 113;refine(az8 _ _ _ _).mono ?_;rintro e w' ⟨rfl,rfl⟩))
 have hmm:=hh.m.mono hle
 have htm:=hh.t.mono hle
 have hbm:=hh.b.mono hle
 go_loopw [3,4] (fun i _ wr=>∃k:Nat,k≤h.ms.length∧i= .int .i64 k∧ao4 ao1 h.ms k∧Ext w H wr H1) (fun i _ _=>h.ms.length-(intOf i).toNat)
 case atStart=>exact⟨0,fh3 _,rfl,ao4.zero _ _,hx⟩
 case round=>
  obtain⟨k,hk,rfl,hok,E5⟩:=hrel
  have hwr:=E5.holds
  by_cases hlt:k<h.ms.length
  ·obtain⟨m,hmk⟩:=At.mk hlt
   obtain⟨b,o,c,he,⟨hi1,hi2,hi3⟩,hr,hp,hs⟩:=hmm.aw2 hmk
   cases he
   go_wp2_with((go_at_call 113;refine(az8 _ _ _ _).mono ?_;rintro e w' ⟨rfl,rfl⟩))
   all_goals try(go_ret;refine⟨an6 (aw1 fun hv=> ?_).symm,(E5.alloc _).below⟩;have:=hv.ms;rw[hmk.az5 (by simp_all [ao1])]at this;cases this)
   go_roundw
   case rel=>exact⟨k+1,by omega,by go_num,hok.succ hmk (by simp_all [ao1]),E5.alloc _⟩
   case measure=>simp[intOf];omega
  ·go_wp2_with fail
   have er1:=hok.all (by omega)
   go_loopw [5] (fun i wr=>∃k:Nat,k≤h.ts.length∧i= .int .i64 k∧ao4 (fun t=>within t 0 99) h.ts k∧Ext w H wr H1) (fun i _=>h.ts.length-(intOf i).toNat)
   case atStart=>exact⟨0,fh3 _,rfl,ao4.zero _ _,E5⟩
   case round=>
    clear E5 hwr hok
    obtain⟨k',hk',rfl,hok,E5⟩:=hrel
    have hwr:=E5.holds
    by_cases hlt':k'<h.ts.length
    ·obtain⟨x,hxk⟩:=At.mk hlt'
     obtain⟨b,o,c,he,hi,hr⟩:=htm.int hxk
     cases he
     go_wp2_with((go_at_call 113;refine(az8 _ _ _ _).mono ?_;rintro e w' ⟨rfl,rfl⟩))
     ·go_ret;refine⟨an6 (aw1 fun hv=> ?_).symm,E5.below⟩;have:=hv.ts;rw[hxk.az5 (by simp_all)]at this;cases this
     ·go_roundw
      case rel=>exact⟨k'+1,by omega,by go_num,hok.succ hxk (by simp_all),E5⟩
      case measure=>simp[intOf];omega
    ·go_wp2_with fail
     have er2:=hok.all (by omega)
     go_loopw [6,7] (fun i _ wr=>∃k:Nat,k≤h.bs.length∧i= .int .i64 k∧ao4 (al7 h.ts.length) h.bs k∧Ext w H wr H1) (fun i _ _=>h.bs.length-(intOf i).toNat)
     case atStart=>exact⟨0,fh3 _,rfl,ao4.zero _ _,E5⟩
     case round=>
      clear E5 hwr hok
      obtain⟨k'',eR9,rfl,hok,E5⟩:=hrel
      have hwr:=E5.holds
      by_cases ee7:k''<h.bs.length
      ·obtain⟨x,hxk⟩:=At.mk ee7
       obtain⟨b,o,c,he,⟨hi1,hi2,hi3⟩,hr,hp,hs⟩:=hbm.X9 hxk
       cases he
       go_wp2_with(first|(go_at_call 113;refine(az8 _ _ _ _).mono ?_;rintro e w' ⟨rfl,rfl⟩)|(go_at_call 114;refine(cj8 _ _ _ _ _ _ _ (E5.holds.alloc _) (hh.mono hle)).mono ?_;rintro e w2 ⟨rfl,hbw⟩;have hw2:=(E5.holds.alloc _).below hbw;have hcb:=bh7 hbw))
       all_goals try(go_ret;refine⟨an6 (aw1 fun hv=> ?_).symm,by first|exact(E5.alloc _).below|exact((E5.alloc _).below.trans (hbw.mono ((E5.alloc _).below.size)))⟩;have:=hv.bs;rw[hxk.az5 (by simp_all [al7])]at this;cases this)
       go_roundw
       case rel=>exact⟨k''+1,by omega,by go_num,hok.succ hxk (by simp_all [al7]),(E5.alloc _).step (hbw.mono ((E5.alloc _).below.size)) ‹_›⟩
       case measure=>simp[intOf];omega
      ·go_wp2_with fail
       go_ret
       exact⟨an6 (ci5 ⟨by have:=within_iff.1 g1;omega,by have:=within_iff.1 g1;omega,by omega,by omega,g4,er1,er2,hok.all (by omega)⟩).symm,E5.below⟩
end
section
open Go.RowKit
attribute [local go_sem] j4.drew j4.alloc j4.drewN WB.holds
theorem af0 (n lo hi:Int) (w:World):
 Calls Tryz.prog 88 #[.int .i64 n,.int .i64 lo,.int .i64 hi] w fun e w'=>e= .returned (.bool (within n lo hi))∧w=w':=by
 go_enter Tryz.func88,Tryz.ntmps88
 go_wp2
 all_goals
  go_ret
  simp[within]
 all_goals (intros;omega)
theorem bs4 (vm vb vt:Value) (h:A9) (n:Int) (H:j5) (w:World) (hw:j4 H w) (hh:Hou H vm vb vt h):
 Calls Tryz.prog 64 #[U2 vm vb vt h,.int .i64 n] w (I1 w (.bool (within n 0 ((h.ts.length:Int)-1)))):=by
 obtain⟨at',ct,rfl,ht1,ht2⟩:=hh.t.form
 go_enter Tryz.func64,Tryz.ntmps64
 go_wp2_with(first|(refine af8 rfl _ rfl (Ext.refl hw) ?_;intro B w1 H1 hle hx hB hBw;obtain⟨hc0,hc1,hc2,hc3⟩:=R6 hB;clear hB hw;have hw1:=hx.holds)|(go_at_call 88;refine(af0 _ _ _ _).mono ?_;rintro e w' ⟨rfl,rfl⟩))
 go_ret
 exact⟨rfl,hx.below⟩
end
section
open Go.RowKit
attribute [local go_sem] j4.drew j4.alloc j4.drewN WB.holds
theorem bC2 (n:Int) (w:World):
 Calls Tryz.prog 87 #[.int .i64 n] w fun e w'=>e= .returned (.bool (within n 0 99))∧w=w':=by
 go_enter Tryz.func87,Tryz.ntmps87
 go_wp2_with(first|(go_at_call 88;refine(af0 _ _ _ _).mono ?_;rintro e w' ⟨rfl,rfl⟩))
 go_ret
 exact⟨rfl,rfl⟩
theorem bC3 (n:Int) (c:Nat) (w:World) (hc:w.cell? ⟨c,0,none⟩=some (.func (.func 87) #[] #[])):
 Calls Tryz.prog 90 #[.int .i64 n,.pointer (some ⟨c,0,none⟩)] w fun e w'=>e= .returned (.bool (!within n 0 99))∧w=w':=by
 go_enter Tryz.func90,Tryz.ntmps90
 go_wp2_with(first|(go_at_call 87;refine(bC2 _ _).mono ?_;rintro e w' ⟨rfl,rfl⟩))
 go_ret
 exact⟨rfl,rfl⟩
def bT4 (w:World) (b:Bool) (n:Nat) (e:Ending) (w':World):Prop:=∃r:Int,e= .returned (.int .i64 r)∧w=w'∧decide (0≤r)=b∧-1≤r∧r≤n
theorem cj9 (va:Value) (xs:List Int) (c:Nat) (H:j5) (w:World) (hw:j4 H w) (ha:Sl H va xs) (hc:w.cell? ⟨c,0,none⟩=some (.func (.func 87) #[] #[])):
 Calls Tryz.prog 139 #[va,.func (.func 90) #[] #[.pointer (some ⟨c,0,none⟩)]] w (bT4 w (xs.any fun n=> !within n 0 99) xs.length):=by
 obtain⟨aa,ca,rfl,ha1,ha2⟩:=ha.form
 go_enter Tryz.func139,Tryz.ntmps139
 go_wp2
 go_loopw [5,8] (fun _ i wr=>∃k:Nat,k≤xs.length∧i= .int .i64 k∧Hid ((xs.take k).any (fun n=> !within n 0 99)=false)∧w=wr) (fun _ i _=>xs.length-(intOf i).toNat)
 case atStart=>exact⟨0,fh3 _,rfl,rfl,rfl⟩
 case round=>
  obtain⟨k,hk,rfl,hok,rfl⟩:=hrel
  by_cases hlk:k<xs.length
  ·obtain⟨x,hxk⟩:=At.mk hlk
   obtain⟨b,o,cc,he,hi,hr⟩:=ha.int hxk
   cases he
   cases g:(!within x 0 99)
   all_goals have g':=fe6 g
   ·go_wp2_with(first|(go_at_call 90;refine(bC3 _ _ _ hc).mono ?_;rintro e w' ⟨rfl,rfl⟩))
    go_roundw
    case rel=>exact⟨k+1,by omega,by go_num,by show _=_;rw[hxk.take,List.any_append,hok.out];simp only[List.any_cons,List.any_nil,g'.out];rfl,by first|rfl|trivial⟩
    case measure=>simp[intOf];omega
   ·go_wp2_with(first|(go_at_call 90;refine(bC3 _ _ _ hc).mono ?_;rintro e w' ⟨rfl,rfl⟩))
    go_ret
    exact⟨k,rfl,rfl,by symm;rw[decide_eq_true (by omega),List.any_eq_true];exact⟨x,hxk.mem,g'.out⟩,by omega,by omega⟩
  ·go_wp2_with fail
   go_ret
   have h1:=hok.out
   rw[aq1 (xs:=xs) (k:=k) (by omega)]at h1
   exact⟨-1,rfl,rfl,by rw[h1];rfl,by omega,by omega⟩
theorem aA7 (va:Value) (xs:List Int) (c:Nat) (H:j5) (w:World) (hw:j4 H w) (ha:Sl H va xs) (hc:w.cell? ⟨c,0,none⟩=some (.func (.func 87) #[] #[])):
 Calls Tryz.prog 89 #[va,.func (.func 90) #[] #[.pointer (some ⟨c,0,none⟩)]] w fun e w'=>e= .returned (.bool (xs.any fun n=> !within n 0 99))∧w=w':=by
 go_enter Tryz.func89,Tryz.ntmps89
 go_wp2_with(first|(go_at_call 139;refine(cj9 _ _ _ _ _ hw ha hc).mono ?_;rintro e w' ⟨r,rfl,rfl,hr1,hr2,hr3⟩))
 go_ret
 exact⟨M0 (by rw[←hr1]),rfl⟩
end
section
open Go.RowKit
attribute [local go_sem] j4.drew j4.alloc j4.drewN WB.holds
theorem bC4 (m:ah4) (c:Nat) (H:j5) (w:World) (hw:j4 H w) (hc:∀w,j4 H w→w.cell? ⟨c,0,none⟩=some (.func (.func 87) #[] #[])):
 Calls Tryz.prog 92 #[.agg #[.int .i64 m.r,.int .i64 m.p,.int .i64 m.s],.pointer (some ⟨c,0,none⟩)] w (I1 w (.bool (!ao1 m))):=by
 have key:Hid ((!ao1 m)=(!within m.r 0 99 || (!within m.p 1 9 || !within m.s 0 1))):=by
  show _=_
  unfold ao1
  cases within m.r 0 99<;>cases within m.p 1 9<;>rfl
 cases g1:within m.r 0 99
 all_goals cases g2:within m.p 1 9
 all_goals cases g3:within m.s 0 1
 all_goals
  rw[g1,g2,g3]at key
  go_enter Tryz.func92,Tryz.ntmps92
  go_wp2_with(first|(go_at_call 87;refine(bC2 _ _).mono ?_;rintro e w' ⟨rfl,rfl⟩)|(go_at_call 88;refine(af0 _ _ _ _).mono ?_;rintro e w' ⟨rfl,rfl⟩))
  go_ret
  exact⟨M0 (by rw[key.out];rfl),(Below.refl _ _).alloc (fh0 _) _⟩
theorem bC5 (vm vb vt:Value) (h:A9) (b:ar8) (B:Nat) (H:j5) (w:World) (hw:j4 H w) (hh:Hou H vm vb vt h)
 (hc0:∀w,j4 H w→w.cell? ⟨B,0,none⟩=some vm) (hc1:∀w,j4 H w→w.cell? ⟨B,1,none⟩=some vb) (hc2:∀w,j4 H w→w.cell? ⟨B,2,none⟩=some vt) (hc3:∀w,j4 H w→w.cell? ⟨B,3,none⟩=some (.int .i64 h.ch)):
 Calls Tryz.prog 94 #[.agg #[.int .i64 b.t,.int .i64 b.h,.int .i64 b.e],.pointer (some ⟨B,0,none⟩)] w (I1 w (.bool (!al7 h.ts.length b))):=by
 have key:Hid ((!al7 h.ts.length b)=(!within b.t 0 ((h.ts.length:Int)-1) || (!within b.h 1 9 || !within b.e 0 3))):=by
  show _=_
  unfold al7
  cases within b.t 0 ((h.ts.length:Int)-1)<;>cases within b.h 1 9<;>rfl
 have hx1:=(Ext.refl hw).alloc (.cells #[.int .i64 b.t,.int .i64 b.h,.int .i64 b.e] 127)
 cases g1:within b.t 0 ((h.ts.length:Int)-1)
 all_goals cases g2:within b.h 1 9
 all_goals cases g3:within b.e 0 3
 all_goals
  rw[g1,g2,g3]at key
  go_enter Tryz.func94,Tryz.ntmps94
  go_wp2_with(first|(go_at_call 64;refine(bs4 _ _ _ _ _ _ _ hx1.holds hh).mono ?_;rintro e w' ⟨rfl,hb2⟩;have hw2:=hx1.holds.below hb2;have hcb:=bh7 hb2)|(go_at_call 88;refine(af0 _ _ _ _).mono ?_;rintro e w' ⟨rfl,rfl⟩))
  go_ret
  exact⟨M0 (by rw[key.out];rfl),hx1.below.trans (hb2.mono hx1.below.size)⟩
end
section
open Go.RowKit
attribute [local go_sem] j4.drew j4.alloc j4.drewN WB.holds
def bh9 (w:World) (b:Bool) (n:Nat) (e:Ending) (w':World):Prop:=∃r:Int,e= .returned (.int .i64 r)∧Below w.heap.size w w'∧decide (0≤r)=b∧-1≤r∧r≤n
theorem cf2 (va:Value) (xs:List ah4) (c:Nat) (H:j5) (w:World) (hw:j4 H w) (ha:Sl H va xs) (hc:∀w,j4 H w→w.cell? ⟨c,0,none⟩=some (.func (.func 87) #[] #[])):
 Calls Tryz.prog 140 #[va,.func (.func 92) #[] #[.pointer (some ⟨c,0,none⟩)]] w (bh9 w (xs.any fun m=> !ao1 m) xs.length):=by
 obtain⟨aa,ca,rfl,ha1,ha2⟩:=ha.form
 go_enter Tryz.func140,Tryz.ntmps140
 go_wp2
 go_loopw [5,8] (fun _ i wr=>∃k:Nat,k≤xs.length∧i= .int .i64 k∧Hid ((xs.take k).any (fun m=> !ao1 m)=false)∧Ext w H wr H) (fun _ i _=>xs.length-(intOf i).toNat)
 case atStart=>exact⟨0,fh3 _,rfl,rfl,Ext.refl hw⟩
 case round=>
  obtain⟨k,hk,rfl,hok,E5⟩:=hrel
  have hwr:=E5.holds
  by_cases hlk:k<xs.length
  ·obtain⟨x,hxk⟩:=At.mk hlk
   obtain⟨b,o,cc,he,⟨hi1,hi2,hi3⟩,hr1,hr2,hr3⟩:=ha.aw2 hxk
   cases he
   cases g:(!ao1 x)
   all_goals have g':=fe6 g
   ·go_wp2_with(first|(go_at_call 92;refine(bC4 x _ _ _ hwr hc).mono ?_;rintro e w' ⟨rfl,hb2⟩))
    go_roundw
    case rel=>exact⟨k+1,by omega,by go_num,by show _=_;rw[hxk.take,List.any_append,hok.out];simp only[List.any_cons,List.any_nil,g'.out];rfl,E5.step (hb2.mono E5.below.size) (hwr.below hb2)⟩
    case measure=>simp[intOf];omega
   ·go_wp2_with(first|(go_at_call 92;refine(bC4 x _ _ _ hwr hc).mono ?_;rintro e w' ⟨rfl,hb2⟩))
    go_ret
    exact⟨k,rfl,(E5.step (hb2.mono E5.below.size) (hwr.below hb2)).below,by symm;rw[decide_eq_true (by omega),List.any_eq_true];exact⟨x,hxk.mem,g'.out⟩,by omega,by omega⟩
  ·go_wp2_with fail
   go_ret
   have h1:=hok.out
   rw[aq1 (xs:=xs) (k:=k) (by omega)]at h1
   exact⟨-1,rfl,E5.below,by rw[h1];rfl,by omega,by omega⟩
theorem aH0 (va:Value) (xs:List ah4) (c:Nat) (H:j5) (w:World) (hw:j4 H w) (ha:Sl H va xs) (hc:∀w,j4 H w→w.cell? ⟨c,0,none⟩=some (.func (.func 87) #[] #[])):
 Calls Tryz.prog 91 #[va,.func (.func 92) #[] #[.pointer (some ⟨c,0,none⟩)]] w (I1 w (.bool (xs.any fun m=> !ao1 m))):=by
 go_enter Tryz.func91,Tryz.ntmps91
 go_wp2_with(first|(go_at_call 140;refine(cf2 _ _ _ _ _ hw ha hc).mono ?_;rintro e w' ⟨r,rfl,hb2,hr1,hr2,hr3⟩))
 go_ret
 exact⟨M0 (by rw[←hr1]),hb2⟩
theorem cf3 (va vm vb vt:Value) (h:A9) (xs:List ar8) (B:Nat) (H:j5) (w:World) (hw:j4 H w) (ha:Sl H va xs) (hh:Hou H vm vb vt h)
 (hc0:∀w,j4 H w→w.cell? ⟨B,0,none⟩=some vm) (hc1:∀w,j4 H w→w.cell? ⟨B,1,none⟩=some vb) (hc2:∀w,j4 H w→w.cell? ⟨B,2,none⟩=some vt) (hc3:∀w,j4 H w→w.cell? ⟨B,3,none⟩=some (.int .i64 h.ch)):
 Calls Tryz.prog 141 #[va,.func (.func 94) #[] #[.pointer (some ⟨B,0,none⟩)]] w (bh9 w (xs.any fun m=> !al7 h.ts.length m) xs.length):=by
 obtain⟨aa,ca,rfl,ha1,ha2⟩:=ha.form
 go_enter Tryz.func141,Tryz.ntmps141
 go_wp2
 go_loopw [5,8] (fun _ i wr=>∃k:Nat,k≤xs.length∧i= .int .i64 k∧Hid ((xs.take k).any (fun m=> !al7 h.ts.length m)=false)∧Ext w H wr H) (fun _ i _=>xs.length-(intOf i).toNat)
 case atStart=>exact⟨0,fh3 _,rfl,rfl,Ext.refl hw⟩
 case round=>
  obtain⟨k,hk,rfl,hok,E5⟩:=hrel
  have hwr:=E5.holds
  by_cases hlk:k<xs.length
  ·obtain⟨x,hxk⟩:=At.mk hlk
   obtain⟨b,o,cc,he,⟨hi1,hi2,hi3⟩,hr1,hr2,hr3⟩:=ha.X9 hxk
   cases he
   cases g:(!al7 h.ts.length x)
   all_goals have g':=fe6 g
   ·go_wp2_with(first|(go_at_call 94;refine(bC5 _ _ _ _ x _ _ _ hwr hh hc0 hc1 hc2 hc3).mono ?_;rintro e w' ⟨rfl,hb2⟩))
    go_roundw
    case rel=>exact⟨k+1,by omega,by go_num,by show _=_;rw[hxk.take,List.any_append,hok.out];simp only[List.any_cons,List.any_nil,g'.out];rfl,E5.step (hb2.mono E5.below.size) (hwr.below hb2)⟩
    case measure=>simp[intOf];omega
   ·go_wp2_with(first|(go_at_call 94;refine(bC5 _ _ _ _ x _ _ _ hwr hh hc0 hc1 hc2 hc3).mono ?_;rintro e w' ⟨rfl,hb2⟩))
    go_ret
    exact⟨k,rfl,(E5.step (hb2.mono E5.below.size) (hwr.below hb2)).below,by symm;rw[decide_eq_true (by omega),List.any_eq_true];exact⟨x,hxk.mem,g'.out⟩,by omega,by omega⟩
  ·go_wp2_with fail
   go_ret
   have h1:=hok.out
   rw[aq1 (xs:=xs) (k:=k) (by omega)]at h1
   exact⟨-1,rfl,E5.below,by rw[h1];rfl,by omega,by omega⟩
theorem aV2 (va vm vb vt:Value) (h:A9) (xs:List ar8) (B:Nat) (H:j5) (w:World) (hw:j4 H w) (ha:Sl H va xs) (hh:Hou H vm vb vt h)
 (hc0:∀w,j4 H w→w.cell? ⟨B,0,none⟩=some vm) (hc1:∀w,j4 H w→w.cell? ⟨B,1,none⟩=some vb) (hc2:∀w,j4 H w→w.cell? ⟨B,2,none⟩=some vt) (hc3:∀w,j4 H w→w.cell? ⟨B,3,none⟩=some (.int .i64 h.ch)):
 Calls Tryz.prog 93 #[va,.func (.func 94) #[] #[.pointer (some ⟨B,0,none⟩)]] w (I1 w (.bool (xs.any fun m=> !al7 h.ts.length m))):=by
 go_enter Tryz.func93,Tryz.ntmps93
 go_wp2_with(first|(go_at_call 141;refine(cf3 _ _ _ _ _ _ _ _ _ hw ha hh hc0 hc1 hc2 hc3).mono ?_;rintro e w' ⟨r,rfl,hb2,hr1,hr2,hr3⟩))
 go_ret
 exact⟨M0 (by rw[←hr1]),hb2⟩
end
section
open Go.RowKit
def ub (acc:List Int):Nat:=acc.foldl (fun u b=>u |||2 ^ b.toNat) 0
theorem bT5 (acc:List Int) (b:Int):ub (acc++[b])=ub acc |||2 ^ b.toNat:=by unfold ub;rw[List.foldl_append];rfl
theorem ck0 {n:Nat} (hn:n≤5):∀(acc:List Int) (u:Nat),u<2 ^ 5→(∀x∈acc,0≤x∧x≤(n:Int)-1)→acc.foldl (fun u b=>u |||2 ^ b.toNat) u<2 ^ 5
 |[],_,hu,_=>hu
 |b::acc,u,hu,h=>by
  refine ck0 hn acc _ (Nat.or_lt_two_pow hu ?_) (fun x hx=>h x (by simp[hx]))
  have:=h b (by simp)
  exact Nat.pow_lt_pow_right (by decide) (by omega)
theorem bK1 {n:Nat} (hn:n≤5) {acc:List Int} (h:∀x∈acc,0≤x∧x≤(n:Int)-1):ub acc<32:=ck0 hn acc 0 (by decide) h
theorem bK2 (b:Nat):∀(acc:List Int) (u:Nat),(∀x∈acc,0≤x)→(acc.foldl (fun u b=>u |||2 ^ b.toNat) u).testBit b=(u.testBit b || decide ((b:Int)∈acc))
 |[],u,_=>by simp
 |c::acc,u,h=>by
  simp only[List.foldl_cons]
  rw[bK2 b acc _ (fun x hx=>h x (by simp[hx])),Nat.testBit_or,Nat.testBit_two_pow]
  have hc:=h c (by simp)
  have:decide (c.toNat=b)=decide ((b:Int)=c):=decide_eq_decide.2 (by omega)
  rw[this,Bool.or_assoc]
  congr 1
  simp
theorem aI2 {acc:List Int} (h:∀x∈acc,0≤x) (b:Nat):(ub acc).testBit b=decide ((b:Int)∈acc):=by
 unfold ub;rw[bK2 b acc 0 h];simp
theorem cX1:∀u:Fin 32,∀b:Fin 5,bits .and .i64 ((u.val:Int) / 2 ^ b.val) 1=((u.val / 2 ^ b.val%2:Nat):Int):=by decide
theorem dm1:∀u:Fin 32,∀b:Fin 5,bits .or .i64 (u.val:Int) (2 ^ b.val)=((u.val |||2 ^ b.val:Nat):Int):=by decide
theorem ck3:∀u:Fin 32,∀b:Fin 5,u.val.testBit b.val=false→bits .andNot .i64 ((u.val |||2 ^ b.val:Nat):Int) (2 ^ b.val)=(u.val:Int):=by decide
theorem dm2 {n:Nat} (hn:n≤5) {acc:List Int} (h:∀x∈acc,0≤x∧x≤(n:Int)-1) {b:Nat} (hb:b<n):bits .and .i64 ((ub acc:Int) / 2 ^ b) 1=if(b:Int)∈acc then 1 else 0:=by
 have h1:=cX1 ⟨ub acc,bK1 hn h⟩ ⟨b,by omega⟩
 simp only at h1
 rw[h1]
 have h2:=aI2 (fun x hx=>(h x hx).1) b
 rw[Nat.testBit_eq_decide_div_mod_eq]at h2
 by_cases hm:(b:Int)∈acc
 ·rw[decide_eq_true hm]at h2
  rw[if_pos hm,of_decide_eq_true h2];rfl
 ·rw[decide_eq_false hm]at h2
  rw[if_neg hm]
  have:=of_decide_eq_false h2
  omega
theorem dG5 {n:Nat} (hn:n≤5) {acc:List Int} (h:∀x∈acc,0≤x∧x≤(n:Int)-1) {b:Nat} (hb:b<n):bits .or .i64 (ub acc:Int) (2 ^ b)=(ub (acc++[(b:Int)]):Nat):=by
 have h1:=dm1 ⟨ub acc,bK1 hn h⟩ ⟨b,by omega⟩
 simp only at h1
 rw[h1,bT5,fh8]
theorem cx5 {n:Nat} (hn:n≤5) {acc:List Int} (h:∀x∈acc,0≤x∧x≤(n:Int)-1) {b:Nat} (hb:b<n) (hm:(b:Int) ∉ acc):bits .andNot .i64 (ub (acc++[(b:Int)]):Nat) (2 ^ b)=(ub acc:Int):=by
 have h2:=aI2 (fun x hx=>(h x hx).1) b
 rw[decide_eq_false hm]at h2
 have h1:=ck3 ⟨ub acc,bK1 hn h⟩ ⟨b,by omega⟩ h2
 simp only at h1
 rw[bT5,fh8,h1]
theorem cX3:∀b:Fin 5,0≤(2:Int) ^ b.val∧(2:Int) ^ b.val≤16:=by decide
theorem dm3 {b:Nat} (hb:b<5):wrap64 (2 ^ b)=2 ^ b:=by
 have:=cX3 ⟨b,hb⟩
 simp only at this
 unfold wrap64
 generalize(2:Int) ^ b=x at*
 omega
end
section
open Go.RowKit
attribute [local go_sem] j4.drew j4.alloc j4.drewN WB.holds
theorem Own.bK3 {α:Type} [Enc α] {H:j5} {base b i:Nat} {w:World} {e:TypeId} {v:Value} {xs:List α} (h:Own H base w e v xs) (hb:b<base) (u:Value):Own H base (w.setCell ⟨b,i,none⟩ u) e v xs:=
 h.setCell (fun e=>by have:=(h.lt _ e).1;simp at this;omega) u
theorem Own.aQ0 {α:Type} [Enc α] {H:j5} {base b i j k l:Nat} {w:World} {e:TypeId} {v:Value} {xs:List α} (h:Own H base w e v xs) (hb:b<base) (u1 u2 u3 u4:Value):Own H base ((((w.setCell ⟨b,i,none⟩ u1).setCell ⟨b,j,none⟩ u2).setCell ⟨b,k,none⟩ u3).setCell ⟨b,l,none⟩ u4) e v xs:=
 (((h.bK3 hb u1).bK3 hb u2).bK3 hb u3).bK3 hb u4
def dy0 (w:World) (H:j5) (h:A9) (f:Ending) (w':World):Prop:=
 ∃um ub ut H',f= .returned (U2 um ub ut h)∧Ext w H w' H'∧Own H' w.heap.size w' 94 um h.ms∧Own H' w.heap.size w' 127 ub h.bs∧Own H' w.heap.size w' 3 ut h.ts
theorem bZ0 (vm vb vt:Value) (h:A9) (H:j5) (w:World) (hw:j4 H w) (hh:Hou H vm vb vt h):
 Calls Tryz.prog 72 #[U2 vm vb vt h] w (dy0 w H h):=by
 obtain⟨am,cm,rfl,hm1,hm2⟩:=hh.m.form
 obtain⟨ab,cb,rfl,hb1,hb2⟩:=hh.b.form
 obtain⟨at',ct,rfl,ht1,ht2⟩:=hh.t.form
 go_enter Tryz.func72,Tryz.ntmps72
 go_upto_region 1 with(refine af8 rfl _ rfl (Ext.refl hw) ?_;intro B w1 H1 hle hx hB hBw;obtain⟨hc0,hc1,hc2,hc3⟩:=R6 hB;clear hB hw;have hw1:=hx.holds)
 have hxz:=hx.alloc (.cells #[.slice none 0 0,.slice none 0 0,.slice none 0 0,.int .i64 0] 26)
 have hzs:w1.heap.size<(w1.alloc (.cells #[.slice none 0 0,.slice none 0 0,.slice none 0 0,.int .i64 0] 26)).heap.size:=by simp
 have hgr:w.heap.size≤w1.heap.size:=hx.below.size
 have hnr:H1 w1.heap.size=none:=hw1.D6 (fh0 _)
 have hhm:=hh.mono hle
 have hrz:Rdy w1.heap.size 26 (w1.alloc (.cells #[.slice none 0 0,.slice none 0 0,.slice none 0 0,.int .i64 0] 26)):=⟨_,_,_,_,heap_alloc_new _ _⟩
 generalize hrb:w1.heap.size=rb at*
 generalize w1.alloc (.cells #[.slice none 0 0,.slice none 0 0,.slice none 0 0,.int .i64 0] 26)=wz at*
 clear hrb hx hw1
 have hwz:=hxz.holds
 have hbz:w.heap.size≤wz.heap.size:=by omega
 go_region_held3 (fun w'=>Ext w H w' H1∧j4 H1 w'∧wz.heap.size≤w'.heap.size∧Rdy rb 26 w')
  (first
   |with_reducible assumption
   |(refine⟨?_, ?_, ?_, ?_⟩<;>first
    |with_reducible assumption
    |((repeat(first|with_reducible assumption|with_reducible refine Ext.drew ?_|with_reducible refine Ext.alloc ?_ _));done)
    |((repeat(first|with_reducible assumption|with_reducible refine j4.drew ?_|with_reducible refine j4.alloc ?_ _));done)
    |((repeat(first|with_reducible assumption|with_reducible refine Rdy.drew ?_|with_reducible refine Rdy.alloc ?_ _));done)
    |(refine Ext.setCell (a:=⟨rb,_,none⟩) (Ext.setCell (a:=⟨rb,_,none⟩) (Ext.setCell (a:=⟨rb,_,none⟩) (Ext.setCell (a:=⟨rb,_,none⟩) ?_ hgr hnr _) hgr hnr _) hgr hnr _) hgr hnr _;with_reducible assumption)
    |(refine j4.setCell (a:=⟨rb,_,none⟩) (j4.setCell (a:=⟨rb,_,none⟩) (j4.setCell (a:=⟨rb,_,none⟩) (j4.setCell (a:=⟨rb,_,none⟩) ?_ hnr _) hnr _) hnr _) hnr _;with_reducible assumption)
    |(refine Rdy.setCell (Rdy.setCell (Rdy.setCell (Rdy.setCell ?_ 0 (by omega) _) 1 (by omega) _) 2 (by omega) _) 3 (by omega) _;with_reducible assumption)
    |with_reducible exact fh0 _
    |(simp<;>omega))
   |(go_split_ands;(refine⟨?_, ?_, ?_, ?_⟩<;>first
    |with_reducible assumption
    |((repeat(first|with_reducible assumption|with_reducible refine Ext.drew ?_|with_reducible refine Ext.alloc ?_ _));done)
    |((repeat(first|with_reducible assumption|with_reducible refine j4.drew ?_|with_reducible refine j4.alloc ?_ _));done)
    |((repeat(first|with_reducible assumption|with_reducible refine Rdy.drew ?_|with_reducible refine Rdy.alloc ?_ _));done)
    |(refine Ext.setCell (a:=⟨rb,_,none⟩) (Ext.setCell (a:=⟨rb,_,none⟩) (Ext.setCell (a:=⟨rb,_,none⟩) (Ext.setCell (a:=⟨rb,_,none⟩) ?_ hgr hnr _) hgr hnr _) hgr hnr _) hgr hnr _;with_reducible assumption)
    |(refine j4.setCell (a:=⟨rb,_,none⟩) (j4.setCell (a:=⟨rb,_,none⟩) (j4.setCell (a:=⟨rb,_,none⟩) (j4.setCell (a:=⟨rb,_,none⟩) ?_ hnr _) hnr _) hnr _) hnr _;with_reducible assumption)
    |(refine Rdy.setCell (Rdy.setCell (Rdy.setCell (Rdy.setCell ?_ 0 (by omega) _) 1 (by omega) _) 2 (by omega) _) 3 (by omega) _;with_reducible assumption)
    |with_reducible exact fh0 _
    |(simp<;>omega))))
  (first
   |(go_split_ands;refine bs3 (w0:=w) (H0:=H) (base:=wz.heap.size) aY9 rfl _ _ rfl (by with_reducible assumption) hbz rfl (by(repeat(first|with_reducible refine Own.drew ?_|with_reducible refine hkT _ _ _ _ (by decide) ?_|with_reducible refine hkB _ _ _ _ (by decide) ?_|with_reducible refine hkM _ _ _ _ (by decide) ?_|exact Own.cj7 (by simp;done) (by(repeat(first|with_reducible assumption|with_reducible refine j4.alloc ?_ _|with_reducible refine j4.drew ?_))) (by(first|with_reducible assumption|with_reducible exact fh0 _|(simp<;>omega)))|with_reducible refine Own.alloc ?_ _))) rfl hhm.m (by(first|with_reducible assumption|with_reducible exact fh0 _|(simp<;>omega))) ?_;intro vM wM ee8 hxM hwM hsM hlM hkM;have hrM:=Rdy.below (by assumption:Rdy rb 26 _) hlM hzs;obtain⟨aM,cM,rfl,_,_⟩:=ee8.form)
   |(go_split_ands;refine bs3 (w0:=w) (H0:=H) (base:=wz.heap.size) aZ0 rfl _ _ rfl (by with_reducible assumption) hbz rfl (by(repeat(first|with_reducible refine Own.drew ?_|with_reducible refine hkT _ _ _ _ (by decide) ?_|with_reducible refine hkB _ _ _ _ (by decide) ?_|with_reducible refine hkM _ _ _ _ (by decide) ?_|exact Own.cj7 (by simp;done) (by(repeat(first|with_reducible assumption|with_reducible refine j4.alloc ?_ _|with_reducible refine j4.drew ?_))) (by(first|with_reducible assumption|with_reducible exact fh0 _|(simp<;>omega)))|with_reducible refine Own.alloc ?_ _))) rfl hhm.b (by(first|with_reducible assumption|with_reducible exact fh0 _|(simp<;>omega))) ?_;intro vB wB ao5 hxB hwB hsB hlB hkB;have hrB:=Rdy.below (by assumption:Rdy rb 26 _) hlB hzs;obtain⟨aB,cB,rfl,_,_⟩:=ao5.form)
   |(go_split_ands;refine bs3 (w0:=w) (H0:=H) (base:=wz.heap.size) ag8 rfl _ _ rfl (by with_reducible assumption) hbz rfl (by(repeat(first|with_reducible refine Own.drew ?_|with_reducible refine hkT _ _ _ _ (by decide) ?_|with_reducible refine hkB _ _ _ _ (by decide) ?_|with_reducible refine hkM _ _ _ _ (by decide) ?_|exact Own.cj7 (by simp;done) (by(repeat(first|with_reducible assumption|with_reducible refine j4.alloc ?_ _|with_reducible refine j4.drew ?_))) (by(first|with_reducible assumption|with_reducible exact fh0 _|(simp<;>omega)))|with_reducible refine Own.alloc ?_ _))) rfl hhm.t (by(first|with_reducible assumption|with_reducible exact fh0 _|(simp<;>omega))) ?_;intro vT wT ee9 hxT hwT hsT hlT hkT;have hrT:=Rdy.below (by assumption:Rdy rb 26 _) hlT hzs;obtain⟨aT,cT,rfl,_,_⟩:=ee9.form;obtain⟨r0,hr0⟩:=hrT.cell 0 (by omega);obtain⟨r1,hr1⟩:=hrT.cell 1 (by omega);obtain⟨r2,hr2⟩:=hrT.cell 2 (by omega);obtain⟨r3,hr3⟩:=hrT.cell 3 (by omega);have hf0:=hrT.fz 0;have hf1:=hrT.fz 1;have hf2:=hrT.fz 2;have hf3:=hrT.fz 3))
 all_goals
  go_wp2_with fail
  refine bodyPost_ret (results_cell_row rfl _ _ rb 26 _ (0,0) _ rfl (hrT.row _ _ _ _) Tryz.underlying26 rfl (by kernel_rfl)) rfl ?_
  refine⟨_,_,_,H1,rfl, ?_, ?_, ?_, ?_⟩
  ·exact Ext.setCell (a:=⟨rb,3,none⟩) (Ext.setCell (a:=⟨rb,2,none⟩) (Ext.setCell (a:=⟨rb,1,none⟩) (Ext.setCell (a:=⟨rb,0,none⟩) hxT hgr hnr _) hgr hnr _) hgr hnr _) hgr hnr _
  ·refine Own.weaken (Own.aQ0 ?_ hzs _ _ _ _) hbz
   repeat(first|with_reducible assumption|with_reducible refine hkT _ _ _ _ (by decide) ?_|with_reducible refine hkB _ _ _ _ (by decide) ?_|with_reducible refine hkM _ _ _ _ (by decide) ?_|with_reducible refine Own.alloc ?_ _|with_reducible refine Own.drew ?_)
  ·refine Own.weaken (Own.aQ0 ?_ hzs _ _ _ _) hbz
   repeat(first|with_reducible assumption|with_reducible refine hkT _ _ _ _ (by decide) ?_|with_reducible refine hkB _ _ _ _ (by decide) ?_|with_reducible refine hkM _ _ _ _ (by decide) ?_|with_reducible refine Own.alloc ?_ _|with_reducible refine Own.drew ?_)
  ·refine Own.weaken (Own.aQ0 ?_ hzs _ _ _ _) hbz
   repeat(first|with_reducible assumption|with_reducible refine hkT _ _ _ _ (by decide) ?_|with_reducible refine hkB _ _ _ _ (by decide) ?_|with_reducible refine hkM _ _ _ _ (by decide) ?_|with_reducible refine Own.alloc ?_ _|with_reducible refine Own.drew ?_)
end
section
open Go.RowKit
theorem bZ2 {α:Type} [Enc α] (h3:Enc.sz α=3) {H:j5} {y:α} {a b c:Value} (hy:Enc.rep H y [a,b,c]):∀{xs:List α} {cs:List Value} {k:Nat},P6 H xs cs→k<xs.length→
 P6 H (xs.set k y) (((cs.set (k*3) a).set (k*3+1) b).set (k*3+2) c)
 |[],_,_,_,hk=>by simp at hk
 |x::xs,cs,k,⟨c1,c2,e,h1,h2⟩,hk=>by
  have hl:=Enc.len h1
  rw[h3]at hl
  match c1,hl with
  |[p,q,r],_=>
   subst e
   cases k with
   |zero=>exact⟨[a,b,c],c2,rfl,hy,h2⟩
   |succ k=>
    have hi:=bZ2 h3 hy h2 (k:=k) (by simpa using hk)
    rw[show(k+1)*3=k*3+3 by omega]
    exact⟨[p,q,r],_,rfl,h1,hi⟩
theorem Own.at3 {α:Type} [Enc α] (h3:Enc.sz α=3) {H:j5} {base:Nat} {w:World} {e:TypeId} {v:Value} {xs:List α} {k:Nat} (h:Own H base w e v xs) (hk:k<xs.length):
 ∃g c,v= .slice (some ⟨g,0,none⟩) xs.length c∧base≤g∧H g=none∧g<w.heap.size∧(∃cur:Array Value,w.heap[g]? =some (.cells cur e (0,0))∧xs.length*3≤cur.size)∧
  ∀(y:α) (p q r:Value),Enc.rep H y [p,q,r]→Own H base (((w.setCell ⟨g,k*3,none⟩ p).setCell ⟨g,k*3+1,none⟩ q).setCell ⟨g,k*3+2,none⟩ r) e v (xs.set k y):=by
 obtain⟨cells,⟨hl,ho⟩,hr,hf,hb⟩:=h
 rcases ho with⟨rfl,hn⟩|⟨g,cap,cur,rfl,hbg,hg,hnc,hcm,hcs,htake⟩
 ·omega
 ·rw[h3]at hl hcs htake
  have hle:xs.length*3≤cur.size:=by rw[hcs];exact Nat.mul_le_mul_right _ hnc
  refine⟨g,cap,rfl,hbg,hf g rfl,(Array.getElem?_eq_some_iff.1 hg).1,⟨cur,hg,hle⟩,fun y p q r hy=> ?_⟩
  refine⟨_,⟨?_,.inr ⟨g,cap,((cur.setIfInBounds (k*3) p).setIfInBounds (k*3+1) q).setIfInBounds (k*3+2) r,by rw[List.length_set],hbg,Q4 (Q4 (Q4 hg _) _) _,by rw[List.length_set];exact hnc,hcm,by simp[h3,hcs], ?_⟩⟩,bZ2 h3 hy hr hk,hf,by rw[List.length_set];exact hb⟩
  ·simp[h3,hl]
  ·rw[List.length_set,h3]
   simp only[Array.toList_setIfInBounds]
   rw[List.take_set,List.take_set,List.take_set,htake]
theorem Rdy.other {rb:Nat} {t:TypeId} {w:World} (h:Rdy rb t w) {a:Addr} (ha:a.block≠rb) (v:Value):Rdy rb t (w.setCell a v):=by
 obtain⟨x,y,z,u,e⟩:=h
 refine⟨x,y,z,u, ?_⟩
 show(w.heap.modify a.block _)[rb]? =_
 rw[Array.getElem?_modify,if_neg ha]
 exact e
theorem aR2 {P:Program} {fn:Func} {p q:Tmp} {ty tz:TypeId} (h:fn.results= #[.cell p ty,.cell q tz]) (tmps:Array Value) (w:World) (g k:Nat) (t u:TypeId) (cs ds:Array Value) (fr gr:Nat × Nat) (d e:TypeDesc)
 (hp:tmps.getD p undef= .pointer (some ⟨g,0,none⟩)) (hq:tmps.getD q undef= .pointer (some ⟨k,0,none⟩)) (hg:w.heap[g]? =some (.cells cs t fr)) (hk:w.heap[k]? =some (.cells ds u gr))
 (hu:P.underlying ty=some d) (hd:(match d with| .struct _| .array _ _=>true|_=>false)=true) (hi:(P.info? ty).map (·.size)=some cs.size)
 (hu':P.underlying tz=some e) (hd':(match e with| .struct _| .array _ _=>true|_=>false)=true) (hi':(P.info? tz).map (·.size)=some ds.size):
 (results fn tmps).run P w= .ok (.tuple #[.agg cs,.agg ds]) w:=by
 have hp':tmps[p]?.getD undef= .pointer (some ⟨g,0,none⟩):=by simpa using hp
 have hq':tmps[q]?.getD undef= .pointer (some ⟨k,0,none⟩):=by simpa using hq
 simp[results,h,hp',hq',asAddr,Sem.run_bind,run_loadVar_row w g t ty cs fr d hg hu hd hi,run_loadVar_row w k u tz ds gr e hk hu' hd' hi']
theorem Own.bz5 {α:Type} [Enc α] {H H':j5} {base:Nat} {w:World} {e:TypeId} {v:Value} {xs:List α} (h:Own H base w e v xs) (k:D8 H H') (hf:∀b,v.ownBlock=some b→H' b=none):Own H' base w e v xs:=by
 obtain⟨cells,ho,hr,_,hb⟩:=h
 exact⟨cells,ho,hr.mono k,hf,hb⟩
theorem Own.cX4 {α β γ:Type} [Enc α] [Enc β] [Enc γ] {w0 W:World} {H0 H:j5} {t1 t2 t3:TypeId} {v1 v2 v3:Value} {xs:List α} {ys:List β} {zs:List γ} (hx:Ext w0 H0 W H)
 (h1:Own H w0.heap.size W t1 v1 xs) (h2:Own H w0.heap.size W t2 v2 ys) (h3:Own H w0.heap.size W t3 v3 zs) (n12:t1≠t2) (n13:t1≠t3) (n23:t2≠t3):
 ∃H',Ext w0 H0 W H'∧D8 H H'∧Sl H' v1 xs∧Sl H' v2 ys∧Sl H' v3 zs:=by
 obtain⟨HA,xA,lA,sA,nA⟩:=h1.close hx
 have k2:Own HA w0.heap.size W t2 v2 ys:=h2.bz5 lA (fun b hb=>by
  rw[nA b (by rcases h1.apart h2 n12 with e|e;·rw[e];simp
              ·rw[←hb];exact e)]
  exact h2.free b hb)
 have k3:Own HA w0.heap.size W t3 v3 zs:=h3.bz5 lA (fun b hb=>by
  rw[nA b (by rcases h1.apart h3 n13 with e|e;·rw[e];simp
              ·rw[←hb];exact e)]
  exact h3.free b hb)
 obtain⟨HB,xB,lB,sB,nB⟩:=k2.close xA
 have m3:Own HB w0.heap.size W t3 v3 zs:=k3.bz5 lB (fun b hb=>by
  rw[nB b (by rcases h2.apart h3 n23 with e|e;·rw[e];simp
              ·rw[←hb];exact e)]
  exact k3.free b hb)
 obtain⟨HC,xC,lC,sC,_⟩:=m3.close xB
 exact⟨HC,xC,(lA.trans lB).trans lC,(sA.mono lB).mono lC,sB.mono lC,sC⟩
end
section
open Go.RowKit
attribute [local go_sem] j4.drew j4.alloc j4.drewN WB.holds
theorem dm4 (um ub ut vm vb vt:Value) (h:A9) (H:j5) (w:World) (hw:j4 H w) (ho:Hou H um ub ut h) (hh:Hou H vm vb vt h):
 Calls Tryz.prog 54 #[U2 um ub ut h,U2 vm vb vt h] w (I1 w (.bool true)):=by
 obtain⟨am,cm,rfl,hm1,hm2⟩:=hh.m.form
 obtain⟨ab,cb,rfl,hb1,hb2⟩:=hh.b.form
 obtain⟨at',ct,rfl,ht1,ht2⟩:=hh.t.form
 obtain⟨dm,em,rfl,hm3,hm4⟩:=ho.m.form
 obtain⟨db,eb,rfl,hb3,hb4⟩:=ho.b.form
 obtain⟨dt,et,rfl,ht3,ht4⟩:=ho.t.form
 have hsame:∀(H':j5) (w:World),j4 H' w→D8 H H'→Calls Tryz.prog 86 #[.slice dt h.ts.length et,.slice at' h.ts.length ct] w (I1 w (.bool true)):=fun H' w hw k=>by
  have h:=aV1 _ _ _ _ H' w hw (ho.t.mono k) (hh.t.mono k)
  simpa using h
 replace hsame:=fe6 hsame
 go_enter Tryz.func54,Tryz.ntmps54
 go_wp2_with(first|((have hgd:=hx;refine af8 rfl _ rfl hx ?_;intro C w2 H2 hle2 hx2 hC hCw;obtain⟨hd0,hd1,hd2,hd3⟩:=R6 hC;replace hc0:=lift hle2 hc0;replace hc1:=lift hle2 hc1;replace hc2:=lift hle2 hc2;replace hc3:=lift hle2 hc3;clear hC hx hw1;have hw2:=hx2.holds;have hl2:=hle.trans hle2))|(refine af8 rfl _ rfl (Ext.refl hw) ?_;intro B w1 H1 hle hx hB hBw;obtain⟨hc0,hc1,hc2,hc3⟩:=R6 hB;clear hB hw;have hw1:=hx.holds)|((go_at_call 86;refine(hsame.out H2 _ hw2 hl2).mono ?_;rintro e w3 ⟨rfl,hb3⟩;have hw3:=hw2.below hb3;have hx3:=hx2.step (hb3.mono hx2.below.size) hw3)))
 have hhm:=hh.mono hl2
 have hom:=ho.mono hl2
 clear hh ho hgd hw2 hx2 hb3
 go_loopw [5] (fun i wr=>∃k:Nat,k≤h.ms.length∧i= .int .i64 k∧Ext w H wr H2) (fun i _=>h.ms.length-(intOf i).toNat)
 case atStart=>exact⟨0,fh3 _,rfl,hx3⟩
 case round=>
  clear hx3 hw3
  obtain⟨k,hk,rfl,E5⟩:=hrel
  have hwr:=E5.holds
  by_cases hlk:k<h.ms.length
  ·obtain⟨z,hzk⟩:=At.mk hlk
   obtain⟨bb,ob',cb',hez,⟨hy1,hy2,hy3⟩,q0,q1,q2⟩:=hhm.m.aw2 hzk
   cases hez
   obtain⟨bo,oo,co,hez,_,p0,p1,p2⟩:=hom.m.aw2 hzk
   cases hez
   go_upto_region 6 with fail
   refine E8 H2 (by kernel_rfl) (by kernel_rfl) hwr (fun hne=> ?_)
   repeat go_big_quiet_step((first|fail))
   refine wpQuiet_nil ?_
   rintro⟨w2,hw2,hb2⟩
   clear hne
   go_wp2_with fail
   go_roundw
   case rel=>exact⟨k+1,by omega,by go_num,E5.step (hb2.mono E5.below.size) hw2⟩
   case measure=>simp[intOf];omega
  ·go_wp2_with fail
   go_loopw [6] (fun i wr=>∃k:Nat,k≤h.bs.length∧i= .int .i64 k∧Ext w H wr H2) (fun i _=>h.bs.length-(intOf i).toNat)
   case atStart=>exact⟨0,fh3 _,rfl,E5⟩
   case round=>
    clear E5 hwr
    obtain⟨k,hk,rfl,E5⟩:=hrel
    have hwr:=E5.holds
    by_cases hlk:k<h.bs.length
    ·obtain⟨z,hzk⟩:=At.mk hlk
     obtain⟨bb,ob',cb',hez,⟨hy1,hy2,hy3⟩,q0,q1,q2⟩:=hhm.b.X9 hzk
     cases hez
     obtain⟨bo,oo,co,hez,_,p0,p1,p2⟩:=hom.b.X9 hzk
     cases hez
     go_upto_region 11 with fail
     refine E8 H2 (by kernel_rfl) (by kernel_rfl) hwr (fun hne=> ?_)
     repeat go_big_quiet_step((first|fail))
     refine wpQuiet_nil ?_
     rintro⟨w2,hw2,hb2⟩
     clear hne
     go_wp2_with fail
     go_roundw
     case rel=>exact⟨k+1,by omega,by go_num,E5.step (hb2.mono E5.below.size) hw2⟩
     case measure=>simp[intOf];omega
    ·go_wp2_with fail
     go_ret
     exact⟨rfl,E5.below⟩
end
end Go.Proofs.YtbliehinagkldaaGreatDoor
