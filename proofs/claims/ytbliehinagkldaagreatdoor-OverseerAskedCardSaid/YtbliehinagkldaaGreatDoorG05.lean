/- Lemmas and walks on which the claims of this seat lean (names and blanks made short by a program): It3 It4 It6 Sure Bst Told Wait Spare. -/
import Derived.Test.YtbliehinagkldaaGreatDoorG01
import Derived.Test.YtbliehinagkldaaGreatDoorG02
import Derived.Test.YtbliehinagkldaaGreatDoorG04
import Derived.Deep.RegionLaw
import Derived.Deep.DeepCutAuto
import Derived.Sort.CutIn

set_option linter.all false
set_option maxRecDepth 100000
set_option maxHeartbeats 16000000
open Go.Lib renaming hid → fe6
open List renaming getD_eq_getElem?_getD → ff3, length_append → ff4, drop_succ_cons → ff5, drop_zero → ff6, length_singleton → ff7, length_cons → ff8, nil_append → ff9, getElem?_eq_getElem → fg0, length_nil → fg1, cons_append → fg2, push_toArray → fg3, length_map → fg5, length_take → fg6, take_of_length_le → fg7
open Array renaming replicate_zero → fg8, replicate_succ → fg9
open Nat renaming le_refl → fh0, le_trans → fh1, zero_le → fh3, reduceAdd → fh6, reduceSub → fh7
open Int renaming toNat_natCast → fh8
open Bool renaming and_eq_true → fh9
namespace Go.Proofs.YtbliehinagkldaaGreatDoor
section
open Go.RowKit
attribute [local go_sem] j4.drew j4.alloc j4.drewN WB.holds Oper.semAt_some Q9 O1 J7
def ac3 (n:Nat) (first:List (List Int)):List (List Int):=first++List.replicate (n-first.length) []
theorem bu4 {n:Nat} {first:List (List Int)} (h:first.length≤n):(ac3 n first).length=n:=by unfold ac3;simp;omega
theorem bu5 {n:Nat} {first:List (List Int)} (h:first.length=n):ac3 n first=first:=by unfold ac3;rw[h];simp
theorem aQ4 (n:Nat) (first:List (List Int)):(ac3 n first).flatten=first.flatten:=by
 unfold ac3
 rw[List.flatten_append]
 have:∀k,(List.replicate k ([]:List Int)).flatten=[]:=fun k=>by induction k with
  |zero=>rfl
  |succ k ih=>rw[List.replicate_succ,List.flatten_cons,ih];rfl
 rw[this,List.append_nil]
theorem dd4 {n:Nat} {first:List (List Int)} (h:first.length<n):ac3 n (first++[[]])=ac3 n first:=by
 unfold ac3
 rw[ff4,ff7,List.append_assoc]
 congr 1
 rw[show n-first.length=(n-(first.length+1))+1 by omega,List.replicate_succ];rfl
def dq1 (h:A9) (H:j5) (p:List (List Int)) (args:Array Value):Prop:=∃vp,args= #[vp,arr (M3 h p)]∧Sl H vp p
structure Env (HF:j5) (l:Nat) (vm vb vt:Value) (h:A9) (stop:Int) (PB YB HB FB SB UB R:Nat):Prop where
 pb:HF PB=some (.cells #[.slice (some ⟨R,0,none⟩) h.ms.length h.ms.length] 28 (0,0))
 yb:HF YB=some (.cells #[.func (.yield l) #[] #[]] 169 (0,0))
 hb:HF HB=some (.cells (U2 vm vb vt h).cells 26 (0,0))
 fb:HF FB=some (.cells #[.func (.func 100) #[] #[.pointer (some ⟨PB,0,none⟩),.pointer (some ⟨YB,0,none⟩),.pointer (some ⟨HB,0,none⟩),.pointer (some ⟨FB,0,none⟩),.pointer (some ⟨SB,0,none⟩),.pointer (some ⟨UB,0,none⟩)]] 160 (0,0))
 sb:HF SB=some (.cells #[.int .i64 stop] 3 (0,0))
 hh:Hou HF vm vb vt h
def bf7 (HF:j5) (n0 UB R n:Nat) (first:List (List Int)) (xs pre:List (List (List Int))) (J Jx:j5→List (List (List Int))→World→Prop) (e:Ending) (W':World):Prop:=
 ∃vs,St HF n0 UB R 3 24 W' vs (ub first.flatten) (ac3 n first)∧
  ((e= .returned (.bool true)∧J (Y8 HF UB R vs W') (pre++xs) W')∨(e= .returned (.bool false)∧∃q,q<+:xs∧Jx (Y8 HF UB R vs W') (pre++q) W'))
def bM1 (h:A9) (HF:j5) (l W0:Nat) (xs:List (List (List Int))) (J Jx:j5→List (List (List Int))→World→Prop):Prop:=
 ∀Hc pre x W1 args m,j4 Hc W1→D8 HF Hc→J Hc pre W1→dq1 h Hc x args→pre++[x]<+:xs→
  YieldAt (FW none) m Tryz.prog l args W1 fun e W'=>j4 Hc W'∧W0≤W'.heap.size∧((e= .returned (.bool true)∧J Hc (pre++[x]) W')∨(e= .returned (.bool false)∧Jx Hc (pre++[x]) W'))
theorem dd5 (HF:j5) (n0 l W0:Nat) (vm vb vt:Value) (h:A9) (hv:Valid h) (stop:Int) (PB YB HB FB SB UB R:Nat) (E:Env HF l vm vb vt h stop PB YB HB FB SB UB R)
 (xs:List (List (List Int))) (J Jx:j5→List (List (List Int))→World→Prop) (hJ:Abides n0 J) (hY:bM1 h HF l W0 xs J Jx) (first:List (List Int)) (hg:aq9 h first) (hlen:first.length=h.ms.length)
 (pre:List (List (List Int))) (hpre:pre++[first]<+:xs) (W:World) (vs:List Value) (s:St HF n0 UB R 3 24 W vs (ub first.flatten) first) (hj:J (Y8 HF UB R vs W) pre W):
 Calls Tryz.prog 100 #[.int .i64 h.ms.length,.pointer (some ⟨PB,0,none⟩),.pointer (some ⟨YB,0,none⟩),.pointer (some ⟨HB,0,none⟩),.pointer (some ⟨FB,0,none⟩),.pointer (some ⟨SB,0,none⟩),.pointer (some ⟨UB,0,none⟩)] W
  (bf7 HF n0 UB R h.ms.length first [first] pre J Jx):=by
 have hpl:aa8 h first=true:=by simp[aa8,hlen,hg.good]
 have hb5:=hv.b5
 have hm3:=hv.m3
 have hsl:=s.sl (by omega) (fun l' hl'=>by
  obtain⟨k,hk,rfl⟩:=List.getElem_of_mem hl'
  have:=aS4 hpl (m:=k) (l:=first[k]) (fg0 hk);omega)
 rw[hlen]at hsl
 have hle:=aW2 (HF:=HF) (UB:=UB) (R:=R) (vs:=vs) W
 have hw:=s.holds
 obtain⟨Hc,hHc⟩:∃Hc,Hid (Y8 HF UB R vs W=Hc):=⟨_,rfl⟩
 rw[hHc.out]at hsl hle hw hj
 have hcP:=fun(w:World) (hw:j4 Hc w)=>D7 (hle _ _ E.pb) hw 0
 have hcY:=fun(w:World) (hw:j4 Hc w)=>D7 (hle _ _ E.yb) hw 0
 obtain⟨hh0,hh1,hh2,hh3⟩:=R6 (hle _ _ E.hb)
 simp at hcP hcY
 have hhc:=E.hh.mono hle
 have dO9:=fe6 hpl
 replace hlen:=fe6 hlen
 have hr:=aB5 hv hpl
 clear hpl
 refine Calls.aw5 (r:=none) (n:=3) ?_
 refine callsIn_of_wp Tryz.func100 rfl trivial ?_ rfl
 simp only[Tryz.ntmps100,List.size_toArray,ff8,fg1,fh6,fh7,fg9,fg8,fg3,List.append_toArray,ff9,fg2]
 gi_wp2
 refine X0 (C:=fun w'=>∃x:WB Hc W,w'=x.w) 7 (by kernel_rfl) (by kernel_rfl) (by kernel_rfl) ⟨⟨W.drew,hw.drew,(Below.refl _ _).drew⟩,rfl⟩ ?_
 simp only[List.take_succ_cons,List.take_zero,ff5,ff6]
 have hne:Nonempty (WB Hc W):=⟨⟨W,hw,Below.refl _ _⟩⟩
 repeat go_big_quiet_step((first|(go_at_call 101;exact Calls.am7 (cy1 _ _ _ _ _ _ _ (WB.holds _) hhc hv (dn2 _ _) (bz6 hv dO9.out)))|(go_at_call 102;exact Calls.am7 (cZ4 _ _ _ _ _ _ _ _ (WB.holds _) hhc hsl hv dO9.out))))
 refine wpQuiet_nil ?_
 clear hne
 rintro w2 ⟨⟨_,hw2,hb2⟩,rfl⟩
 have hnW:n0≤W.heap.size:=by have:=(s.new UB (Q7.2 (.inl rfl))).2;have:=s.bA5 (Q7.2 (.inl rfl));omega
 have hj2:=hJ _ _ _ _ _ hj hw (Q6.ext hw hb2 hnW)
 obtain⟨fn,tmps,assign,body,hy,hR⟩:=hY Hc pre first w2 #[.slice (some ⟨R,0,none⟩) h.ms.length h.ms.length,arr (aP0 h (aV5 h first))] 2 hw2 (by rw[←hHc.out];exact aW2 W) hj2 ⟨_,rfl,hsl⟩ hpre
 gi_wp2
 refine hR.mono ?_
 clear hR hy
 rintro e W3 ⟨hW3,hz3,(⟨rfl,hJ3⟩|⟨rfl,hJx3⟩)⟩
 ·gi_wp2
  go_ret
  obtain⟨s3,he3⟩:=s.kept (by rw[hHc.out];exact hW3)
  rw[←hHc.out,←he3]at hJ3
  exact⟨vs,by rw[bu5 hlen.out];exact s3,.inl ⟨rfl,hJ3⟩⟩
 ·gi_wp2
  go_ret
  obtain⟨s3,he3⟩:=s.kept (by rw[hHc.out];exact hW3)
  rw[←hHc.out,←he3]at hJx3
  exact⟨vs,by rw[bu5 hlen.out];exact s3,.inr ⟨rfl,[first],List.prefix_refl _,hJx3⟩⟩
end
section
open Go.RowKit
attribute [local go_sem] j4.drew j4.alloc j4.drewN WB.holds
section
variable {HF:j5} {n0 UB R:Nat} {tI tL:TypeId} {W W':World} {vs vs':List Value} {u u':Nat} {plan dy7:List (List Int)}
theorem St.own (s:St HF n0 UB R tI tL W vs u plan) {m:Nat} {l:List Int} {v:Value} (hl:At plan m l) (hv:At vs m v) (hlen:l.length≤1000):Own HF n0 W tI v l:=
 ⟨_,s.rows m l v hl hv,af6.2 ⟨rfl,fun x hx=>s.i64 x (List.mem_flatten.2 ⟨l,hl.mem,hx⟩)⟩,fun k hk=>(s.new k (Q7.2 (.inr (.inr ⟨v,hv.mem,hk⟩)))).1,by simp only[Enc.M4];omega⟩
theorem Own.ints {H:j5} {base:Nat} {w:World} {e:TypeId} {v:Value} {xs:List Int} (h:Own H base w e v xs):w.ownsRow base e 1 v xs.length (xs.map (Value.int .i64)):=by
 obtain⟨cells,ho,hr,_⟩:=h
 obtain⟨rfl,_⟩:=af6.1 hr
 exact ho
theorem St.size (s:St HF n0 UB R tI tL W vs u plan):n0≤W.heap.size:=by have:=(s.new UB (Q7.2 (.inl rfl))).2;have:=s.bA5 (Q7.2 (.inl rfl));omega
end
theorem bu6 {n:Nat} {first:List (List Int)} {m:Nat} {l:List Int} (hl:At first m l) (hm:first.length=m+1) (b:Nat):(ac3 n first).set m (l++[(b:Int)])=ac3 n (al4 first b):=by
 unfold ac3
 rw[aB0 (by omega),List.set_append_left _ _ (by omega)]
 congr 1
 unfold al4
 have h2:first.getD (first.length-1) []=l:=by rw[ff3,show first.length-1=m by omega,show first[m]? =some l from hl];rfl
 rw[h2,show first.length-1=m by omega,List.set_eq_take_append_cons_drop,if_pos (by omega),List.drop_eq_nil_of_le (by omega)]
theorem bj9 {n:Nat} {first:List (List Int)} {m:Nat} {l:List Int} (hl:At first m l):At (ac3 n first) m l:=by
 unfold ac3
 show _=_
 rw[List.getElem?_append_left hl.lt];exact hl
theorem co5 {first:List (List Int)} {m:Nat} {l:List Int} (hl:At first m l) (hm:first.length=m+1) (b:Nat):At (al4 first b) m (l++[(b:Int)]):=by
 unfold al4
 have h2:first.getD (first.length-1) []=l:=by rw[ff3,show first.length-1=m by omega,show first[m]? =some l from hl];rfl
 show _=_
 rw[h2,List.getElem?_append_right (by rw[fg6];omega),fg6]
 simp[hm]
theorem aT3 {n:Nat} {first:List (List Int)} {m:Nat} {l:List Int} (hl:At first m l) (hm:first.length=m+1) (b:Nat):(ac3 n (al4 first b)).set m l=ac3 n first:=by
 rw[←bu6 hl hm,List.set_set]
 have:=bj9 (n:=n) hl
 obtain⟨hk,e⟩:=List.getElem?_eq_some_iff.1 (show(ac3 n first)[m]? =some l from this)
 rw[←e,List.set_getElem_self]
theorem bp0 (h:A9) (rec:List (List Int)→List (List (List Int))) (first:List (List Int)) {j n:Nat} (hj:j≤n):ao2 h rec first j<+:ao2 h rec first n:=by
 induction n with
 |zero=>rw[show j=0 by omega];exact List.prefix_refl _
 |succ n ih=>
  by_cases e:j=n+1
  ·rw[e];exact List.prefix_refl _
  ·refine(ih (by omega)).trans ?_
   rw[bC1]
   exact List.prefix_append _ _
section
variable {α:Type}
theorem bE3 {w:World} {base:Nat} {e:TypeId} {g n cap:Nat} {xs:List Value} (h:w.ownsRow base e 1 (.slice (some ⟨g,0,none⟩) n cap) n xs) {k:Nat} (hk:k≤n):w.ownsRow base e 1 (.slice (some ⟨g,0,none⟩) k cap) k (xs.take k):=by
 obtain⟨hl,h2⟩:=h
 rcases h2 with⟨hv,_⟩|⟨g',cap',cur,hv,hb,hg,hnc,hcm,hcs,ht⟩
 ·cases hv
 ·cases hv
  refine⟨by rw[fg6];omega,.inr ⟨g,cap,cur,rfl,hb,hg,by omega,hcm,hcs, ?_⟩⟩
  rw[←ht,List.take_take];congr 1;omega
theorem ownsRow_form {w:World} {base:Nat} {e:TypeId} {v:Value} {n:Nat} {xs:List Value} (h:w.ownsRow base e 1 v (n+1) xs):∃g cap,v= .slice (some ⟨g,0,none⟩) (n+1) cap∧n+1≤cap∧cap≤maxLen:=by
 obtain⟨hl,h2⟩:=h
 rcases h2 with⟨_,hn⟩|⟨g',cap',cur,hv,hb,hg,hnc,hcm,hcs,ht⟩
 ·omega
 ·exact⟨g',cap',hv,hnc,hcm⟩
end
theorem cb5 (HF:j5) (n0 l W0:Nat) (vm vb vt:Value) (h:A9) (hv:Valid h) (stop:Int) (dP0:K8 stop) (PB YB HB FB SB UB R:Nat) (E:Env HF l vm vb vt h stop PB YB HB FB SB UB R)
 (xs:List (List (List Int))) (J Jx:j5→List (List (List Int))→World→Prop) (hJ:Abides n0 J) (hJx:Abides n0 Jx) (hY:bM1 h HF l W0 xs J Jx) (rec:List (List Int)→List (List (List Int))) (first:List (List Int)) (hg:aq9 h first)
 (hrec:∀f pre W vs,aq9 h f→mu h f<mu h first→pre++rec f<+:xs→St HF n0 UB R 3 24 W vs (ub f.flatten) (ac3 h.ms.length f)→J (Y8 HF UB R vs W) pre W→∀i:Int,i+1=f.length→
  Calls Tryz.prog 100 #[.int .i64 i,.pointer (some ⟨PB,0,none⟩),.pointer (some ⟨YB,0,none⟩),.pointer (some ⟨HB,0,none⟩),.pointer (some ⟨FB,0,none⟩),.pointer (some ⟨SB,0,none⟩),.pointer (some ⟨UB,0,none⟩)] W
   (bf7 HF n0 UB R h.ms.length f (rec f) pre J Jx))
 (pre:List (List (List Int))) (hpre:pre++ae5 h stop rec first<+:xs) (W:World) (vs:List Value) (s:St HF n0 UB R 3 24 W vs (ub first.flatten) (ac3 h.ms.length first)) (hj:J (Y8 HF UB R vs W) pre W) (m:Nat) (hm:first.length=m+1):
 Calls Tryz.prog 100 #[.int .i64 m,.pointer (some ⟨PB,0,none⟩),.pointer (some ⟨YB,0,none⟩),.pointer (some ⟨HB,0,none⟩),.pointer (some ⟨FB,0,none⟩),.pointer (some ⟨SB,0,none⟩),.pointer (some ⟨UB,0,none⟩)] W
  (bf7 HF n0 UB R h.ms.length first (ae5 h stop rec first) pre J Jx):=by
 have hmn:=hg.le
 have hm3:=hv.m3
 have hb5:=hv.b5
 obtain⟨ab,cb,rfl,hb1,hb2⟩:=E.hh.b.form
 have hA:Calls Tryz.prog 100 #[.int .i64 ((m:Int)+1),.pointer (some ⟨PB,0,none⟩),.pointer (some ⟨YB,0,none⟩),.pointer (some ⟨HB,0,none⟩),.pointer (some ⟨FB,0,none⟩),.pointer (some ⟨SB,0,none⟩),.pointer (some ⟨UB,0,none⟩)] W
  (bf7 HF n0 UB R h.ms.length first (al8 h rec first) pre J Jx):=by
  by_cases hl:first.length=h.ms.length
  ·have hpa:al8 h rec first=[first]:=by unfold al8;rw[if_pos hl]
   rw[hpa,show(m:Int)+1=(h.ms.length:Nat)by omega]
   refine dd5 HF n0 l W0 vm _ vt h hv stop PB YB HB FB SB UB R E xs J Jx hJ hY first hg hl pre ?_ W vs (by rw[bu5 hl]at s;exact s) hj
   refine List.IsPrefix.trans ?_ hpre
   unfold ae5;rw[hpa]
   exact(List.prefix_append_right_inj pre).2 (List.prefix_append _ _)
  ·have hpa:al8 h rec first=rec (first++[[]]):=by unfold al8;rw[if_neg hl]
   have hfl:(first++[[]]).flatten=first.flatten:=by simp
   have hfp:=dd4 (n:=h.ms.length) (first:=first) (by omega)
   rw[hpa]
   refine(hrec (first++[[]]) pre W vs (hg.aU9 hl).1 (hg.aU9 hl).2 ?_ (by rw[hfl,hfp];exact s) hj ((m:Int)+1) (by simp[hm])).mono ?_
   ·refine List.IsPrefix.trans ?_ hpre
    unfold ae5;rw[hpa]
    exact(List.prefix_append_right_inj pre).2 (List.prefix_append _ _)
   ·rintro e W' ⟨vs',s',hh⟩
    exact⟨vs',by rw[hfl,hfp]at s';exact s',hh⟩
 obtain⟨hh0,hh1,hh2,hh3⟩:=R6 E.hb
 have hcP:=fun(w:World) (hw:j4 HF w)=>D7 E.pb hw 0
 have hcF:=fun(w:World) (hw:j4 HF w)=>D7 E.fb hw 0
 have hcS:=fun(w:World) (hw:j4 HF w)=>D7 E.sb hw 0
 simp at hcP hcF hcS
 have eS8:((m:Int)==h.ms.length)=false:=by simp;omega
 unfold K8 at dP0
 have hW:=s.hf
 go_enter Tryz.func100,Tryz.ntmps100
 go_wp2_with fail
 go_at_call 100
 refine hA.mono ?_
 clear hA
 rintro e W1 ⟨vs1,s1,(⟨rfl,hj1⟩|⟨rfl,q,hq,hjx⟩)⟩
 ·have hW1:=s1.hf
  cases hst:((m:Int)==stop)
  ·have hstep:ae5 h stop rec first=al8 h rec first++ao2 h rec first h.bs.length:=by
    unfold ae5;rw[if_neg (by have:¬(m:Int)=stop:=by simpa using hst
                             rw[hm];omega)]
   replace hstep:=fe6 hstep
   have hgood:=(au5.1 hg.good).1
   obtain⟨lr,hlr⟩:=At.mk (xs:=first) (k:=m) (by omega)
   have eF0:lr.length≤5:=by
    have h1:=hg.len
    have h2:=congrArg List.length (congrArg List.flatten hlr.split)
    simp at h2 h1;omega
   obtain⟨acc,hacc⟩:∃acc,Hid (acc=first.flatten):=⟨_,rfl⟩
   have bf8:∀x∈acc,0≤x∧x≤(h.bs.length:Int)-1:=by rw[hacc.out];exact hgood
   clear hgood
   go_wp2_with fail
   go_loopw [9,10,34] (fun _ _ i wr=>∃(k:Nat) (vs2:List Value),k≤h.bs.length∧i= .int .i64 k∧St HF n0 UB R 3 24 wr vs2 (ub acc) (ac3 h.ms.length first)∧J (Y8 HF UB R vs2 wr) (pre++(al8 h rec first++ao2 h rec first k)) wr) (fun _ _ i _=>h.bs.length-(intOf i).toNat)
   case atStart=>
    refine⟨0,vs1,fh3 _,rfl,by rw[hacc.out];exact s1, ?_⟩
    rw[show ao2 h rec first 0=[]from rfl,List.append_nil];exact hj1
   case round=>
    clear hj1 s1 hW1 hj s hW
    obtain⟨k,vs2,hk,rfl,s2,hj2⟩:=hrel
    have hw2:=s2.hf
    by_cases hlk:k<h.bs.length
    ·have hbit:=dm2 hb5 bf8 hlk
     have hsucc:=bC1 h rec first k
     rw[←hacc.out]at hsucc
     have hcU:=s2.bA6.1
     have hfU:=s2.bA6.2
     by_cases hin:(k:Int)∈acc
     ·rw[if_pos hin]at hbit
      rw[decide_eq_true hin,if_pos rfl,List.append_nil]at hsucc
      replace hsucc:=fe6 hsucc
      replace hin:=fe6 hin
      go_wp2_with fail
      go_roundw
      case rel=>exact⟨k+1,vs2,by omega,by go_num,s2,by rw[hsucc.out];exact hj2⟩
      case measure=>simp[intOf];omega
     ·rw[if_neg hin]at hbit
      rw[decide_eq_false hin,if_neg (by decide)]at hsucc
      have hor:=dG5 hb5 bf8 hlk
      have hpw:=dm3 (b:=k) (by omega)
      have hno:=cx5 hb5 bf8 hlk hin
      replace hsucc:=fe6 hsucc
      replace hin:=fe6 hin
      go_wp2_with fail
      go_region
      obtain⟨s3,t3⟩:=s2.bU9 (ub (acc++[(k:Int)]))
      have hj3:=hJ _ _ _ _ _ hj2 s2.holds t3
      clear hcU hfU hw2
      replace hj3:=hJ _ _ _ _ _ hj3 t3.holds (Q6.refl t3.holds).drew
      replace s3:=s3.drew
      rw[←bj8]at hj3
      generalize(wr.setCell ⟨UB,0,none⟩ (.int .i64 (ub (acc++[(k:Int)]):Nat))).drew=w3 at*
      clear t3 s2 hj2
      have hw3:=s3.hf
      have cO8:=bj9 (n:=h.ms.length) hlr
      obtain⟨rv,hrv⟩:=At.mk (xs:=vs2) (k:=m) (by rw[s3.len,bu4 hg.le];omega)
      have hcR:=(s3.bA7 hrv).1
      have hfR:=(s3.bA7 hrv).2
      have hRn:=(s3.new R (Q7.2 (.inr (.inl rfl)))).1
      have dq0:=s3.bA5 (Q7.2 (.inr (.inl rfl)))
      have hown:=s3.own cO8 hrv (by omega)
      have es9:=s3.size
      obtain⟨ra,rc,et0,hrl,hrc⟩:=hown.form
      subst et0
      have et1:=(s3.rne _ hrv.mem).2
      go_wp2_with fail
      have hm0:(0:Int)≤(m:Int):=by omega
      have hm1:(m:Int)<(h.ms.length:Int):=by omega
      go_cut [] (fun wc=>∃vs4,St HF n0 UB R 3 24 wc vs4 (ub (acc++[(k:Int)])) (ac3 h.ms.length (al4 first k))∧J (Y8 HF UB R vs4 wc) (pre++(al8 h rec first++ao2 h rec first k)) wc)
      case first=>
       go_region_law ((refine aY8 (H:=HF) (base:=n0) ag8 rfl _ _ rfl rfl (by exact(hown.alloc _).drew) (x:=(k:Int)) rfl ⟨rfl,by omega,by omega⟩ (one_cell (by simp[go_sem])) (by first|exact hw3.drew.alloc _|exact(hw3.alloc _).drew) (by simp[Enc.M4];omega) (by omega) (by simp;omega) ?_;intro v' w' hown' hgr hwA hat;have hRh:w'.heap[R]? =some (.cells vs2.toArray 24 (0,0)):=(hgr.block R (by simp;omega) (Ne.symm et1)).trans ((Below.heap_alloc _ _ _ dq0).trans s3.rr);have eS9:w'.cell? ⟨R,m,none⟩=some (.slice ra lr.length rc):=(cell_of_row w' R m _ _ _ hRh).trans (by simpa using(show vs2[m]? =some (.slice ra lr.length rc)from hrv));have eT0:w'.frozen? ⟨R,m,none⟩=false:=(by simp[World.frozen?,hRh]);obtain⟨a',c',rfl,_,_⟩:=hown'.form))
       all_goals
        go_wp2_with fail
        go_meet
        have dz1:∀x∈((ac3 h.ms.length first).set m (lr++[(k:Int)])).flatten,K8 x:=by
         rw[bu6 hlr hm,aQ4,aG1 hg.ne,←hacc.out]
         intro x hx
         rcases List.mem_append.1 hx with hx|hx
         ·have:=bf8 x hx;unfold K8;omega
         ·rw[List.mem_singleton.1 hx];unfold K8;omega
        have hlI:∀x∈lr++[(k:Int)],K8 x:=fun x hx=>dz1 x (List.mem_flatten.2 ⟨_,(cO8.co4 _).mem,hx⟩)
        obtain⟨s4,t4⟩:=s3.setRow (W':=w') (l':=lr++[(k:Int)]) cO8 hrv (((Below.refl n0 w3).alloc es9 (.cells #[.int .i64 (k:Int)] 3)).drew.grown hgr (by simp;omega) (fun q e=>(hown.lt q e).1)) (fun q hq hne=>(hgr.block q (by simp;omega) hne).trans (Below.heap_alloc _ _ _ hq))
         hown'.ints (hat.imp id (fun e=>⟨_,e,by simp⟩)) hlI dz1
        rw[bu6 hlr hm]at s4
        rw[show(lr++[(k:Int)]).length=lr.length+1 from by simp]at s4 t4
        exact⟨_,s4,hJ _ _ _ _ _ hj3 s3.holds t4⟩
      case rest=>
       obtain⟨vs4,s4,hj4⟩:=hcut
       have dP2:∀x∈lr,K8 x:=fun x hx=>s3.i64 x (List.mem_flatten.2 ⟨_,cO8.mem,hx⟩)
       clear hcR hfR hown hw3 s3 hj3
       have dP3:(k:Int) ∉ first.flatten:=by rw[←hacc.out];exact hin.out
       have hgf:(al4 first k).flatten=acc++[(k:Int)]:=by rw[aG1 hg.ne,hacc.out]
       have dz2:(pre++(al8 h rec first++ao2 h rec first k))++rec (al4 first k)<+:xs:=by
        refine List.IsPrefix.trans ?_ hpre
        rw[hstep.out,List.append_assoc,List.append_assoc]
        refine(List.prefix_append_right_inj pre).2 ((List.prefix_append_right_inj _).2 ?_)
        rw[←hsucc.out];exact bp0 h rec first (by omega)
       have hcall:=hrec (al4 first k) (pre++(al8 h rec first++ao2 h rec first k)) wc vs4 (hg.bz4 hlk dP3).1 (hg.bz4 hlk dP3).2 dz2 (by rw[hgf];exact s4) hj4 (m:Int) (by rw[aB0 hg.ne];omega)
       replace hgf:=fe6 hgf
       have hw4:=s4.hf
       go_wp2_with fail
       go_at_call 100
       refine hcall.mono ?_
       clear hcall dz2
       rintro e W5 ⟨vs5,s5,(⟨rfl,hj5⟩|⟨rfl,q,hq,hj5⟩)⟩
       all_goals rw[hgf.out]at s5
       ·have hw5:=s5.hf
        have hgrow:=co5 hlr hm k
        have co6:=bj9 (n:=h.ms.length) hgrow
        obtain⟨rv5,bk0⟩:=At.mk (xs:=vs5) (k:=m) (by rw[s5.len,bu4 (by rw[aB0 hg.ne];exact hg.le)];omega)
        have aT4:=s5.rows m _ _ co6 bk0
        rw[show(lr++[(k:Int)]).length=lr.length+1 from by simp]at aT4
        obtain⟨g5,cap5,cO9,hcap5,hcap5'⟩:=ownsRow_form aT4
        subst cO9
        unfold maxLen at hcap5'
        have dq2:=(s5.bA7 bk0).1
        have dq3:=(s5.bA7 bk0).2
        have hsz5:=s5.size
        go_wp2_with fail
        go_cut [] (fun wd=>∃vs6,St HF n0 UB R 3 24 wd vs6 (ub (acc++[(k:Int)])) (ac3 h.ms.length first)∧J (Y8 HF UB R vs6 wd) (pre++(al8 h rec first++ao2 h rec first k)++rec (al4 first k)) wd)
        case first=>
         go_region
         all_goals
          go_wp2_with fail
          go_meet
          have bf9:=bE3 aT4 (Nat.le_succ lr.length)
          rw[show(List.map (Value.int .i64) (lr++[(k:Int)])).take lr.length=lr.map (Value.int .i64)from by simp]at bf9
          have h5f:∀x∈((ac3 h.ms.length (al4 first k)).set m lr).flatten,K8 x:=by
           rw[aT3 hlr hm,aQ4,←hacc.out]
           intro x hx;have:=bf8 x hx;unfold K8;omega
          obtain⟨s6,t6⟩:=s5.drew.setRow (W':=W5.drew) (l':=lr) (v':= .slice (some ⟨g5,0,none⟩) lr.length cap5) co6 bk0 (Below.refl _ _) (fun _ _ _=>rfl) bf9 (.inl rfl) (fun x hx=>dP2 x hx) h5f
          rw[aT3 hlr hm]at s6
          exact⟨_,s6,hJ _ _ _ _ _ (hJ _ _ _ _ _ hj5 s5.holds (Q6.refl s5.holds).drew) s5.drew.holds t6⟩
        case rest=>
         obtain⟨vs6,s6,hj6⟩:=hcut
         clear dq2 dq3 hw5 aT4 s5 hj5
         have et2:=s6.bA6.1
         have et3:=s6.bA6.2
         go_wp2_with fail
         go_region
         obtain⟨s7,t7⟩:=s6.bU9 (ub acc)
         have hj7:=hJ _ _ _ _ _ hj6 s6.holds t7
         replace hj7:=hJ _ _ _ _ _ hj7 t7.holds (Q6.refl t7.holds).drew
         replace s7:=s7.drew
         rw[←bj8]at hj7
         go_wp2_with fail
         go_roundw
         case rel=>exact⟨k+1,vs6,by omega,by go_num,s7,by rw[hsucc.out,←List.append_assoc (al8 h rec first),←List.append_assoc pre];exact hj7⟩
         case measure=>simp[intOf];omega
       ·have hw5:=s5.hf
        have hgrow:=co5 hlr hm k
        have co6:=bj9 (n:=h.ms.length) hgrow
        obtain⟨rv5,bk0⟩:=At.mk (xs:=vs5) (k:=m) (by rw[s5.len,bu4 (by rw[aB0 hg.ne];exact hg.le)];omega)
        have aT4:=s5.rows m _ _ co6 bk0
        rw[show(lr++[(k:Int)]).length=lr.length+1 from by simp]at aT4
        obtain⟨g5,cap5,cO9,hcap5,hcap5'⟩:=ownsRow_form aT4
        subst cO9
        unfold maxLen at hcap5'
        have dq2:=(s5.bA7 bk0).1
        have dq3:=(s5.bA7 bk0).2
        have hsz5:=s5.size
        go_wp2_with fail
        go_cut [] (fun wd=>∃vs6,St HF n0 UB R 3 24 wd vs6 (ub (acc++[(k:Int)])) (ac3 h.ms.length first)∧Jx (Y8 HF UB R vs6 wd) (pre++(al8 h rec first++ao2 h rec first k)++q) wd)
        case first=>
         go_region
         all_goals
          go_wp2_with fail
          go_meet
          have bf9:=bE3 aT4 (Nat.le_succ lr.length)
          rw[show(List.map (Value.int .i64) (lr++[(k:Int)])).take lr.length=lr.map (Value.int .i64)from by simp]at bf9
          have h5f:∀x∈((ac3 h.ms.length (al4 first k)).set m lr).flatten,K8 x:=by
           rw[aT3 hlr hm,aQ4,←hacc.out]
           intro x hx;have:=bf8 x hx;unfold K8;omega
          obtain⟨s6,t6⟩:=s5.drew.setRow (W':=W5.drew) (l':=lr) (v':= .slice (some ⟨g5,0,none⟩) lr.length cap5) co6 bk0 (Below.refl _ _) (fun _ _ _=>rfl) bf9 (.inl rfl) (fun x hx=>dP2 x hx) h5f
          rw[aT3 hlr hm]at s6
          exact⟨_,s6,hJx _ _ _ _ _ (hJx _ _ _ _ _ hj5 s5.holds (Q6.refl s5.holds).drew) s5.drew.holds t6⟩
        case rest=>
         obtain⟨vs6,s6,hj6⟩:=hcut
         clear dq2 dq3 hw5 aT4 s5 hj5
         have et2:=s6.bA6.1
         have et3:=s6.bA6.2
         go_wp2_with fail
         go_region
         obtain⟨s7,t7⟩:=s6.bU9 (ub acc)
         have hj7:=hJx _ _ _ _ _ hj6 s6.holds t7
         replace hj7:=hJx _ _ _ _ _ hj7 t7.holds (Q6.refl t7.holds).drew
         replace s7:=s7.drew
         rw[←bj8]at hj7
         go_wp2_with fail
         go_ret
         refine⟨vs6,by rw[←hacc.out];exact s7,.inr ⟨rfl,al8 h rec first++ao2 h rec first k++q, ?_, ?_⟩⟩
         ·rw[hstep.out,List.append_assoc]
          refine(List.prefix_append_right_inj _).2 ?_
          refine List.IsPrefix.trans ?_ (bp0 h rec first (show k+1≤h.bs.length by omega))
          rw[hsucc.out];exact(List.prefix_append_right_inj _).2 hq
         ·rw[←List.append_assoc pre];exact hj7
    ·go_wp2_with fail
     go_ret
     exact⟨vs2,by rw[←hacc.out];exact s2,.inl ⟨rfl,by rw[hstep.out,←show k=h.bs.length by omega];exact hj2⟩⟩
  ·have hstep:ae5 h stop rec first=al8 h rec first:=by
    unfold ae5;rw[if_pos (by have:(m:Int)=stop:=by simpa using hst
                             rw[hm];omega),List.append_nil]
   replace hstep:=fe6 hstep
   go_wp2_with fail
   go_ret
   exact⟨vs1,s1,.inl ⟨rfl,by rw[hstep.out];exact hj1⟩⟩
 ·have hW1:=s1.hf
  go_wp2_with fail
  go_ret
  exact⟨vs1,s1,.inr ⟨rfl,q,hq.trans (by unfold ae5;exact List.prefix_append _ _),hjx⟩⟩
end
section
open Go.RowKit
attribute [local go_sem] j4.drew j4.alloc j4.drewN WB.holds
theorem dq4 (HF:j5) (n0 l W0:Nat) (vm vb vt:Value) (h:A9) (hv:Valid h) (stop:Int) (hstop:K8 stop) (PB YB HB FB SB UB R:Nat) (E:Env HF l vm vb vt h stop PB YB HB FB SB UB R)
 (xs:List (List (List Int))) (J Jx:j5→List (List (List Int))→World→Prop) (hJ:Abides n0 J) (hJx:Abides n0 Jx) (hY:bM1 h HF l W0 xs J Jx):
 ∀(n:Nat) (f:List (List Int)) (pre:List (List (List Int))) (W:World) (vs:List Value),aq9 h f→mu h f≤n→pre++aU8 h stop n f<+:xs→St HF n0 UB R 3 24 W vs (ub f.flatten) (ac3 h.ms.length f)→J (Y8 HF UB R vs W) pre W→∀i:Int,i+1=f.length→
  Calls Tryz.prog 100 #[.int .i64 i,.pointer (some ⟨PB,0,none⟩),.pointer (some ⟨YB,0,none⟩),.pointer (some ⟨HB,0,none⟩),.pointer (some ⟨FB,0,none⟩),.pointer (some ⟨SB,0,none⟩),.pointer (some ⟨UB,0,none⟩)] W
   (bf7 HF n0 UB R h.ms.length f (aU8 h stop n f) pre J Jx):=by
 intro n
 induction n with
 |zero=>
  intro f pre W vs hg hmu hpre s hj i hi
  have hlen:=hg.ne
  obtain⟨m,hm⟩:∃m,f.length=m+1:=⟨f.length-1,by omega⟩
  obtain rfl:i=(m:Int):=by omega
  exact cb5 HF n0 l W0 vm vb vt h hv stop hstop PB YB HB FB SB UB R E xs J Jx hJ hJx hY (fun _=>[]) f hg (fun f' _ _ _ _ hlt=>absurd hlt (by omega)) pre hpre W vs s hj m hm
 |succ n ih=>
  intro f pre W vs hg hmu hpre s hj i hi
  have hlen:=hg.ne
  obtain⟨m,hm⟩:∃m,f.length=m+1:=⟨f.length-1,by omega⟩
  obtain rfl:i=(m:Int):=by omega
  exact cb5 HF n0 l W0 vm vb vt h hv stop hstop PB YB HB FB SB UB R E xs J Jx hJ hJx hY (aU8 h stop n) f hg (fun f' pre' W' vs' hg' hlt hpre' s' hj' i' hi'=>ih f' pre' W' vs' hg' (by omega) hpre' s' hj' i' hi') pre hpre W vs s hj m hm
theorem cf8 (n:Nat) (hn:n≤3) (w:World):(Instr.makeSlice 28 (.int .i64 (n:Int)) (.int .i64 (n:Int))).run Tryz.prog w= .ok (.slice (some ⟨w.heap.size,0,none⟩) n n) (w.alloc (.cells (List.replicate n (Value.slice none 0 0)).toArray 24)):=by
 obtain⟨i,z,hi,hz',hsz,hby,hzs⟩:=eList.inf
 have hz:(Tryz.prog.info? 24).map (·.zero)=some (some (.slice none 0 0)):=by kernel_rfl
 obtain rfl:z= .slice none 0 0:=by rw[hi]at hz;simp at hz;rw[hz]at hz';exact(Option.some.inj hz').symm
 have hr:=run_make (P:=Tryz.prog) w 28 24 i (.slice none 0 0) eList.und hi hz' .i64 .i64 (n:Int) (n:Int) (by omega) (Int.le_refl _) (by rw[hby];simp only[Enc.M4];omega) (by omega)
 simp only[fh8]at hr
 rw[hr,hsz]
 have:madeCells (Value.slice none 0 0).cells (n*Enc.sz (List Int))=(List.replicate n (Value.slice none 0 0)).toArray:=by
  apply Array.ext
  ·simp[madeCells,Enc.sz]
  ·intro k h1 h2
   simp[madeCells,Value.cells,Nat.mod_one]
 rw[this]
theorem hA {w:World} {k:Nat} {o:Obj} (o':Obj) (h:w.heap[k]? =some o):(w.alloc o').heap[k]? =some o:=(heap_alloc_old w o' (Array.getElem?_eq_some_iff.1 h).1).trans h
theorem hN {w:World} {k:Nat} (o:Obj) (hk:k=w.heap.size):(w.alloc o).heap[k]? =some o:=by subst hk;exact heap_alloc_new w o
theorem cP0 (vm vb vt:Value) (h:A9) (hv:Valid h) (stop:Int) (hstop:K8 stop) (HB SB:Nat) (H:j5) (w:World) (hw:j4 H w) (hh:Hou H vm vb vt h) (hHB:H HB=some (.cells (U2 vm vb vt h).cells 26 (0,0))) (hSB:H SB=some (.cells #[.int .i64 stop] 3 (0,0))):
 Iter Tryz.prog 99 #[.pointer (some ⟨HB,0,none⟩),.pointer (some ⟨SB,0,none⟩)] (dq1 h) (ac1 h stop) w H:=by
 obtain⟨am,cm,rfl,hm1,hm2⟩:=hh.m.form
 have hm3:=hv.m3
 intro l J Jx W HW hx hJ hJx hY h0
 have ac2:=hx.le hw
 have hW:=hx.holds
 obtain⟨hc0,hc1,hc2,hc3⟩:=R6 (ac2 _ _ hHB)
 refine Calls.mono (R:=bA4 HW (ac1 h stop) J Jx) ?_ (fun _ _ h=>h)
 have hmf:∀(fn:Fn) (first cap:Array Value) (w:World),(Instr.makeFunc fn first cap).run Tryz.prog w= .ok (.func fn first cap) w:=fun _ _ _ _=>rfl
 have hmk:=cf8 h.ms.length hm3
 go_enter Tryz.func99,Tryz.ntmps99
 go_wp2_with fail
 have hn:∀k,W.heap.size≤k→HW k=none:=fun k hk=>hW.D6 hk
 obtain⟨YB,hYB⟩:∃YB,Hid (YB=W.heap.size):=⟨_,rfl⟩
 obtain⟨W5,hW5⟩:∃W5,Hid (W5=((((W.alloc (.cells #[.func (.yield l) #[] #[]] 169)).alloc (.cells (List.replicate h.ms.length (Value.slice none 0 0)).toArray 24)).alloc (.cells #[.slice (some ⟨YB+1,0,none⟩) h.ms.length h.ms.length] 28)).alloc (.cells #[.int .i64 ((0:Nat):Int)] 3)).alloc
  (.cells #[.func (.func 100) #[] #[.pointer (some ⟨YB+1+1,0,none⟩),.pointer (some ⟨YB,0,none⟩),.pointer (some ⟨HB,0,none⟩),.pointer (some ⟨YB+1+1+1+1,0,none⟩),.pointer (some ⟨SB,0,none⟩),.pointer (some ⟨YB+1+1+1,0,none⟩)]] 160)):=⟨_,rfl⟩
 have hb5:Below W.heap.size W W5:=by
  rw[hW5.out]
  exact(((((Below.refl _ W).alloc (fh0 _) _).alloc (by simp) _).alloc (by simp;omega) _).alloc (by simp;omega) _).alloc (by simp;omega) _
 have k0:W5.heap[YB]? =some (.cells #[.func (.yield l) #[] #[]] 169 (0,0)):=by
  rw[hW5.out];exact hA _ (hA _ (hA _ (hA _ (hN _ hYB.out))))
 have k1:W5.heap[YB+1]? =some (.cells (List.replicate h.ms.length (Value.slice none 0 0)).toArray 24 (0,0)):=by
  rw[hW5.out];exact hA _ (hA _ (hA _ (hN _ (by simp[hYB.out]))))
 have k2:W5.heap[YB+1+1]? =some (.cells #[.slice (some ⟨YB+1,0,none⟩) h.ms.length h.ms.length] 28 (0,0)):=by
  rw[hW5.out];exact hA _ (hA _ (hN _ (by simp[hYB.out])))
 have k3:W5.heap[YB+1+1+1]? =some (.cells #[.int .i64 ((0:Nat):Int)] 3 (0,0)):=by
  rw[hW5.out];exact hA _ (hN _ (by simp[hYB.out]))
 have k4:W5.heap[YB+1+1+1+1]? =some (.cells #[.func (.func 100) #[] #[.pointer (some ⟨YB+1+1,0,none⟩),.pointer (some ⟨YB,0,none⟩),.pointer (some ⟨HB,0,none⟩),.pointer (some ⟨YB+1+1+1+1,0,none⟩),.pointer (some ⟨SB,0,none⟩),.pointer (some ⟨YB+1+1+1,0,none⟩)]] 160 (0,0)):=by
  rw[hW5.out];exact hN _ (by simp[hYB.out])
 have hyb:=hYB.out
 rw[←hyb]
 have hWW:Hid (((((W.alloc (.cells #[.func (.yield l) #[] #[]] 169)).alloc (.cells (Array.replicate h.ms.length (Value.slice none 0 0)) 24)).alloc (.cells #[.slice (some ⟨YB+1,0,none⟩) h.ms.length h.ms.length] 28)).alloc (.cells #[.int .i64 0] 3)).alloc
  (.cells #[.func (.func 100) #[] #[.pointer (some ⟨YB+1+1,0,none⟩),.pointer (some ⟨YB,0,none⟩),.pointer (some ⟨HB,0,none⟩),.pointer (some ⟨YB+1+1+1+1,0,none⟩),.pointer (some ⟨SB,0,none⟩),.pointer (some ⟨YB+1+1+1,0,none⟩)]] 160)=W5):=by
  show _=_;rw[hW5.out];simp
 rw[hWW.out]
 clear hWW hW5
 have hHF:j4 (((HW.put YB (.cells #[.func (.yield l) #[] #[]] 169 (0,0))).put (YB+1+1) (.cells #[.slice (some ⟨YB+1,0,none⟩) h.ms.length h.ms.length] 28 (0,0))).put (YB+1+1+1+1) (.cells #[.func (.func 100) #[] #[.pointer (some ⟨YB+1+1,0,none⟩),.pointer (some ⟨YB,0,none⟩),.pointer (some ⟨HB,0,none⟩),.pointer (some ⟨YB+1+1+1+1,0,none⟩),.pointer (some ⟨SB,0,none⟩),.pointer (some ⟨YB+1+1+1,0,none⟩)]] 160 (0,0))) W5:=
  (((hW.below hb5).put k0).put k2).put k4
 have bH8:D8 HW (((HW.put YB (.cells #[.func (.yield l) #[] #[]] 169 (0,0))).put (YB+1+1) (.cells #[.slice (some ⟨YB+1,0,none⟩) h.ms.length h.ms.length] 28 (0,0))).put (YB+1+1+1+1) (.cells #[.func (.func 100) #[] #[.pointer (some ⟨YB+1+1,0,none⟩),.pointer (some ⟨YB,0,none⟩),.pointer (some ⟨HB,0,none⟩),.pointer (some ⟨YB+1+1+1+1,0,none⟩),.pointer (some ⟨SB,0,none⟩),.pointer (some ⟨YB+1+1+1,0,none⟩)]] 160 (0,0))):=by
  refine((j5.L9 (hn _ (by omega)) _).trans (j5.L9 ?_ _)).trans (j5.L9 ?_ _)
  ·rw[j5.F3 _ _ (by omega)];exact hn _ (by omega)
  ·rw[j5.F3 _ _ (by omega),j5.F3 _ _ (by omega)];exact hn _ (by omega)
 have q0:=j5.G7 HW YB (.cells #[.func (.yield l) #[] #[]] 169 (0,0))
 obtain⟨HF,hF⟩:∃HF,Hid ((((HW.put YB (.cells #[.func (.yield l) #[] #[]] 169 (0,0))).put (YB+1+1) (.cells #[.slice (some ⟨YB+1,0,none⟩) h.ms.length h.ms.length] 28 (0,0))).put (YB+1+1+1+1) (.cells #[.func (.func 100) #[] #[.pointer (some ⟨YB+1+1,0,none⟩),.pointer (some ⟨YB,0,none⟩),.pointer (some ⟨HB,0,none⟩),.pointer (some ⟨YB+1+1+1+1,0,none⟩),.pointer (some ⟨SB,0,none⟩),.pointer (some ⟨YB+1+1+1,0,none⟩)]] 160 (0,0)))=HF):=⟨_,rfl⟩
 have e0:HF YB=some (.cells #[.func (.yield l) #[] #[]] 169 (0,0)):=by rw[←hF.out,j5.F3 _ _ (by omega),j5.F3 _ _ (by omega),j5.G7]
 have e2:HF (YB+1+1)=some (.cells #[.slice (some ⟨YB+1,0,none⟩) h.ms.length h.ms.length] 28 (0,0)):=by rw[←hF.out,j5.F3 _ _ (by omega),j5.G7]
 have e4:HF (YB+1+1+1+1)=some (.cells #[.func (.func 100) #[] #[.pointer (some ⟨YB+1+1,0,none⟩),.pointer (some ⟨YB,0,none⟩),.pointer (some ⟨HB,0,none⟩),.pointer (some ⟨YB+1+1+1+1,0,none⟩),.pointer (some ⟨SB,0,none⟩),.pointer (some ⟨YB+1+1+1,0,none⟩)]] 160 (0,0)):=by rw[←hF.out,j5.G7]
 have e1:HF (YB+1)=none:=by rw[←hF.out,j5.F3 _ _ (by omega),j5.F3 _ _ (by omega),j5.F3 _ _ (by omega)];exact hn _ (by omega)
 have e3:HF (YB+1+1+1)=none:=by rw[←hF.out,j5.F3 _ _ (by omega),j5.F3 _ _ (by omega),j5.F3 _ _ (by omega)];exact hn _ (by omega)
 have eo:∀b,b<W.heap.size→HF b=HW b:=fun b hb=>by rw[←hF.out,j5.F3 _ _ (by omega),j5.F3 _ _ (by omega),j5.F3 _ _ (by omega)]
 rw[hF.out]at hHF bH8
 clear hF q0
 have E:Env HF l (.slice am h.ms.length cm) vb vt h stop (YB+1+1) YB HB (YB+1+1+1+1) SB (YB+1+1+1) (YB+1):=
  ⟨e2,e0,bH8 _ _ (ac2 _ _ hHB),e4,bH8 _ _ (ac2 _ _ hSB),hh.mono (ac2.trans bH8)⟩
 have hown:∀k,ownB (YB+1+1+1) (YB+1) (List.replicate h.ms.length (Value.slice none 0 0)) k=true→k=YB+1+1+1∨k=YB+1:=fun k hk=>by
  rcases Q7.1 hk with h|h|⟨v,hv,e⟩
  ·exact .inl h
  ·exact .inr h
  ·rw[List.eq_of_mem_replicate hv]at e;cases e
 have hgs:=bd0 hv
 have eT1:=hv.m1
 have hfull:ac3 h.ms.length [[]]=List.replicate h.ms.length []:=by
  unfold ac3
  rw[ff7]
  obtain⟨d,hd⟩:∃d,h.ms.length=d+1:=⟨h.ms.length-1,by omega⟩
  rw[hd,Nat.add_sub_cancel,List.replicate_succ];rfl
 have s:St HF W.heap.size (YB+1+1+1) (YB+1) 3 24 W5 (List.replicate h.ms.length (Value.slice none 0 0)) (ub ([[]]:List (List Int)).flatten) (ac3 h.ms.length [[]]):=by
  rw[hfull]
  refine⟨hHF,k3,k1,by simp,fun m l v hl hv=> ?_,fun k hk=> ?_,by omega,fun v hv=> ?_,fun m m' v v' _ hv _=> ?_,fun x hx=> ?_⟩
  ·have e1:=List.eq_of_mem_replicate hl.mem
   have e2:=List.eq_of_mem_replicate hv.mem
   rw[e1,e2];exact⟨rfl,.inl ⟨rfl,rfl⟩⟩
  ·rcases hown k hk with rfl|rfl
   ·exact⟨e3,by omega⟩
   ·exact⟨e1,by omega⟩
  ·rw[List.eq_of_mem_replicate hv];exact⟨by simp[Value.ownBlock],by simp[Value.ownBlock]⟩
  ·rw[List.eq_of_mem_replicate hv.mem];exact .inl rfl
  ·obtain⟨l',hl',hx'⟩:=List.mem_flatten.1 hx
   rw[List.eq_of_mem_replicate hl']at hx';cases hx'
 have hsn:∀b,b<W.heap.size→Y8 HF (YB+1+1+1) (YB+1) (List.replicate h.ms.length (Value.slice none 0 0)) W5 b=HW b:=fun b hb=>by
  have ho:ownB (YB+1+1+1) (YB+1) (List.replicate h.ms.length (Value.slice none 0 0)) b=false:=by
   cases ho:ownB (YB+1+1+1) (YB+1) (List.replicate h.ms.length (Value.slice none 0 0)) b with
   |false=>rfl
   |true=>rcases hown b ho with e|e<;>omega
  cases hk:HF b with
  |some o=>rw[aB7 _ hk,←eo b hb,hk]
  |none=>rw[ay3 _ hk ho,←eo b hb,hk]
 have t:Q6 W.heap.size W HW W5 (Y8 HF (YB+1+1+1) (YB+1) (List.replicate h.ms.length (Value.slice none 0 0)) W5):=by
  refine⟨hb5,fun b cs t fr e hb=> ?_,hsn,s.holds⟩
  have hlt:=(Array.getElem?_eq_some_iff.1 e).1
  exact⟨(hb5.block b hlt).trans e,(hsn b hlt).trans hb⟩
 have hj:=hJ _ _ _ _ _ h0 hW t
 have hR:bM1 h HF l W.heap.size (ac1 h stop) J Jx:=fun Hc pre x W1 args m hw hle=>hY Hc pre x W1 args m hw (bH8.trans hle)
 refine(dq4 HF W.heap.size l W.heap.size (.slice am h.ms.length cm) vb vt h hv stop hstop (YB+1+1) YB HB (YB+1+1+1+1) SB (YB+1+1+1) (YB+1) E (ac1 h stop) J Jx hJ hJx hR (mu h [[]]) [[]] [] W5 _ hgs (fh0 _) (List.prefix_refl _) s hj 0 (by simp)).mono ?_
 rintro e W' ⟨vs',s',(⟨rfl,hj'⟩|⟨rfl,q,hq,hj'⟩)⟩
 ·go_wp2_with fail
  go_end0
  exact⟨⟨_,rfl⟩,_,s'.holds,bH8.trans (aW2 W'),.inl hj'⟩
 ·go_wp2_with fail
  go_end0
  exact⟨⟨_,rfl⟩,_,s'.holds,bH8.trans (aW2 W'),.inr ⟨q,hq,hj'⟩⟩
end
section
open Go.RowKit
attribute [local go_sem] j4.drew j4.alloc j4.drewN WB.holds
def ch5 {α:Type} (gf:FuncId) (enc:j5→α→Array Value→Prop) (xs:List α) (w:World) (H:j5) (e:Ending) (w':World):Prop:=
 ∃lb H',e= .returned (.func (.func gf) #[] lb)∧Ext w H w' H'∧Iter Tryz.prog gf lb enc xs w' H'
theorem bk3 (vm vb vt:Value) (h:A9) (H:j5) (w:World) (hw:j4 H w) (hh:Hou H vm vb vt h) (hm3:h.ms.length≤3):
 Calls Tryz.prog 65 #[U2 vm vb vt h] w (ch5 98 dO7 (ag6 h) w H):=by
 have hmf:∀(fn:Fn) (first cap:Array Value) (w:World),(Instr.makeFunc fn first cap).run Tryz.prog w= .ok (.func fn first cap) w:=fun _ _ _ _=>rfl
 go_enter Tryz.func65,Tryz.ntmps65
 go_wp2_with(first|(refine af8 rfl _ rfl (Ext.refl hw) ?_;intro B w1 H1 hle hx hB hBw;have hBH:=fe6 hB;clear hB hw;have hw1:=hx.holds))
 go_ret
 exact⟨_,H1,rfl,hx,cO7 vm vb vt h B H1 w1 hw1 (hh.mono hle) hBH.out hm3⟩
theorem aO2 (vm vb vt:Value) (h:A9) (hv:Valid h) (stop:Int) (hstop:K8 stop) (H:j5) (w:World) (hw:j4 H w) (hh:Hou H vm vb vt h):
 Calls Tryz.prog 66 #[U2 vm vb vt h,.int .i64 stop] w (ch5 99 (dq1 h) (ac1 h stop) w H):=by
 have hmf:∀(fn:Fn) (first cap:Array Value) (w:World),(Instr.makeFunc fn first cap).run Tryz.prog w= .ok (.func fn first cap) w:=fun _ _ _ _=>rfl
 go_enter Tryz.func66,Tryz.ntmps66
 go_wp2_with(first|(refine af8 rfl _ rfl (Ext.refl hw) ?_;intro B w1 H1 hle hx hB hBw;have hBH:=fe6 hB;clear hB hw;have hw1:=hx.holds))
 go_ret
 have hn:H1 w1.heap.size=none:=hw1.D6 (fh0 _)
 have hx2:=(hx.alloc (.cells #[.int .i64 stop] 3)).freeze hx.below.size (heap_alloc_new w1 _)
 have hle2:=j5.L9 hn (.cells #[.int .i64 stop] 3 (0,0))
 exact⟨_,_,rfl,hx2,cP0 vm vb vt h hv stop hstop B w1.heap.size _ _ hx2.holds ((hh.mono hle).mono hle2) (hle2 _ _ hBH.out) (j5.G7 _ _ _)⟩
end
section
open Go.RowKit
attribute [local go_sem] j4.drew j4.alloc j4.drewN WB.holds Oper.semAt_some Q9 O1 J7
theorem Ext.newF {w0 w:World} {H0 H:j5} (hx:Ext w0 H0 w H) (cs:Array Value) (t:TypeId):Ext w0 H0 (w.alloc (.cells cs t)) (H.put w.heap.size (.cells cs t (0,0)))∧D8 H (H.put w.heap.size (.cells cs t (0,0)))∧(H.put w.heap.size (.cells cs t (0,0))) w.heap.size=some (.cells cs t (0,0)):=
 ⟨(hx.alloc _).freeze hx.below.size (heap_alloc_new w _),j5.L9 (hx.holds.D6 (fh0 _)) _,j5.G7 _ _ _⟩
theorem Row.turn {H H':j5} {base n0 b:Nat} {W W':World} {t:TypeId} {xs:List Int} (h:Row H base W t b xs) (ht:Q6 n0 W H W' H'):Row H' base W' t b xs:=
 let ⟨e,hn⟩:=ht.keep _ _ _ _ h.at_ h.free;⟨e,h.base,hn⟩
theorem bk4 {l:List Int} (h:l.length=4):∃a b c d,l=[a,b,c,d]:=by
 match l,h with
 |[a,b,c,d],_=>exact⟨a,b,c,d,rfl⟩
theorem ak6 {F:Fence} {n:Nat} {P:Program} {fn:Func} {tmps:Array Value} {R:Ending→World→Prop} {D:Nat} {W:World} {v:Value} (hD:W.heap[D]? =some (.deferred (some []))) (hr:(results fn tmps).run P (W.putObj D (.deferred none))= .ok v (W.putObj D (.deferred none))) (hR:R (.returned v) (W.putObj D (.deferred none))):
 LeavesInM F n P fn tmps R [{target:= .collected D,args:= #[]}] .returning W:=⟨by simp,.inl ⟨_,_,rfl,run_takeDeferred hD,⟨v,hr,hR⟩⟩⟩
theorem ao7 {n0 D:Nat} {w W:World} {o:Obj} (h:Below n0 w W) (hD:n0≤D) (hlt:D<W.heap.size):Below n0 w (W.putObj D o):=h.grown (grownBy_putObj' W D o) (by omega) (fun k e=>by cases e;exact hD)
theorem Cell.am3 {H:j5} {W:World} {base B D:Nat} {t:TypeId} {v:Value} {o:Obj} (h:Cell H W base B t v) (hne:B≠D):Cell H (W.putObj D o) base B t v:=⟨(World.putObj_heap_other hne).trans h.at_,h.free,h.base⟩
theorem bp1 {P:Program} {fn:Func} {p:Tmp} {ty:TypeId} (h:fn.results= #[.cell p ty]) (tmps:Array Value) (w:World) (g:Nat) (v:Value) (hp:tmps.getD p undef= .pointer (some ⟨g,0,none⟩)) (hc:w.cell? ⟨g,0,none⟩=some v) (hna:(isAgg ty).run P w= .ok false w):(results fn tmps).run P w= .ok v w:=by
 have hp':tmps[p]?.getD undef= .pointer (some ⟨g,0,none⟩):=by simpa using hp
 simp[results,h,hp',asAddr,loadVar,Sem.run_bind,hna,go_sem,hc]
theorem dq5:∀a b:Fin 16,(bits .andNot .u64 (a.val:Int) (b.val:Int)==0)=decide (∀k:Fin 4,a.val.testBit k.val=true→b.val.testBit k.val=true):=by decide+kernel
theorem bV0 {l:List Int} (hl:∀x∈l,0≤x∧x≤3):ub l<16:=by
 have h1:∀x∈l,(0:Int)≤x:=fun x hx=>(hl x hx).1
 have h2:ub l<32:=bK1 (n:=4) (by omega) (fun x hx=>by have:=hl x hx;omega)
 have h4:(ub l).testBit 4=false:=by
  rw[aI2 h1]
  refine decide_eq_false fun hm=> ?_
  have:=hl _ hm;omega
 rw[Nat.testBit_eq_decide_div_mod_eq]at h4
 have:=of_decide_eq_false h4
 omega
theorem bE5 {A S:List Int} (hA:∀x∈A,0≤x∧x≤3) (hS:∀x∈S,0≤x∧x≤3):(bits .andNot .u64 (ub A:Nat) (ub S:Nat)==0)=A.all (fun t=>decide (t∈S)):=by
 have:=dq5 ⟨ub A,bV0 hA⟩ ⟨ub S,bV0 hS⟩
 simp only at this
 rw[this,Bool.eq_iff_iff,decide_eq_true_eq,List.all_eq_true]
 constructor
 ·intro h x hx
  have hb:=hA x hx
  have h1:=h ⟨x.toNat,by omega⟩
  simp only[aI2 (fun y hy=>(hA y hy).1),aI2 (fun y hy=>(hS y hy).1),Int.toNat_of_nonneg hb.1,decide_eq_true_eq]at h1
  exact decide_eq_true (h1 hx)
 ·intro h k hk
  rw[aI2 (fun y hy=>(hA y hy).1),decide_eq_true_eq]at hk
  rw[aI2 (fun y hy=>(hS y hy).1)]
  exact h _ hk
theorem aT5 {h:A9} (hv:Valid h) (p:List (List Int)):∀x∈ad4 h p,0≤x∧x≤3:=by
 intro x hx
 unfold ad4 aG9 at hx
 obtain⟨i,hi,rfl⟩:=List.mem_map.1 hx
 have:=List.mem_range.1 (List.mem_filter.1 hi).1
 have:=hv.t4
 exact⟨Int.natCast_nonneg i,by have:((i:Nat):Int)≤3:=by omega
                               exact this⟩
theorem co7 (vm vb vt:Value) (h:A9) (hv:Valid h) (S:List Int) (hS:∀x∈S,0≤x∧x≤3) (H:j5) (w:World) (hw:j4 H w) (hh:Hou H vm vb vt h):
 Calls Tryz.prog 57 #[U2 vm vb vt h,.int .u64 (ub S:Nat)] w (I1 w (.bool (ar0 h S))):=by
 refine Calls.aw5 (r:=none) (n:=3) (callsIn_of_wp_marks Tryz.func57 rfl trivial (wpIn_wide.2 ?_) rfl)
 simp only[Tryz.ntmps57,List.size_toArray,ff8,fg1,fh6,fh7,fg9,fg8,fg3,List.append_toArray,ff9,fg2]
 go_upto_region 1 with(refine af8 rfl _ rfl (Ext.refl hw) ?_;intro B w1 H1 hle hx hB hBw;obtain⟨hc0,hc1,hc2,hc3⟩:=R6 hB;clear hB hw;have hw1:=hx.holds)
 obtain⟨hxU,aM7,hBU⟩:=hx.newF #[.int .u64 (ub S:Nat)] 104
 have hcell:=Cell.new (W:=w1.alloc (.cells #[.int .u64 (ub S:Nat)] 104)) (t:=4) hxU.holds hxU.below.size rfl (.bool false)
 have hxz:=hxU.alloc (.cells #[.bool false] 4)
 rw[World.size_alloc]at hcell
 generalize H1.put w1.heap.size (.cells #[.int .u64 (ub S:Nat)] 104 (0,0))=H2 at*
 generalize(w1.alloc (.cells #[.int .u64 (ub S:Nat)] 104)).alloc (.cells #[.bool false] 4)=wz at*
 generalize w1.heap.size+1=RB at*
 generalize w1.heap.size=SB at*
 replace hc0:=lift aM7 hc0
 replace hc1:=lift aM7 hc1
 replace hc2:=lift aM7 hc2
 replace hc3:=lift aM7 hc3
 have hcS:=fun(w:World) (hw:j4 H2 w)=>D7 hBU hw 0
 simp at hcS
 have hhm:=(hh.mono hle).mono aM7
 have hwz:=hxz.holds
 clear hxU aM7 hBU hx hle hw1
 go_step3
 go_wp2_with fail
 go_step3
 go_wp2_with(first|(go_at_call 65;refine(bk3 _ _ _ _ H2 _ hwz hhm hv.m3).mono ?_;rintro e w3 ⟨lb,H3,rfl,hx3,hit⟩))
 have hw3:=hx3.holds
 have hle3:=hx3.le hwz
 have al2:=hxz.trans hx3
 have bu7:=(hcell.below hx3.below).snap ((hx3.same RB hcell.lt).trans hcell.free)
 clear hcell hxz hwz hx3
 refine(wpIn_wide (n:=3)).1 (at6 (k:=3) (H:=H3) rfl (enters_of Tryz.func98 (by kernel_rfl) rfl) hw3 hit (fun _ _ _ e=>by rw[show _=_ from e];rfl) (fun _ _ _ _ _ e=>e)
  (J:=fun Hc pre W=>(Ext w H W Hc∧Cell Hc W w.heap.size RB 4 (.bool false))∧pre.all (aJ4 h S)=true)
  (Jx:=fun c Hc pre W=>(c= .ret∧(Ext w H W Hc∧Cell Hc W w.heap.size RB 4 (.bool false)))∧pre.all (aJ4 h S)=false)
  (J2:=fun Hc pre x args a1 W=>((Ext w H W Hc∧Cell Hc W w.heap.size RB 4 (.bool false))∧pre.all (aJ4 h S)=true)∧a1={tmps:= #[U2 vm vb vt h,.int .u64 (ub S:Nat),.pointer (some ⟨B,0,none⟩),.pointer (some ⟨SB,0,none⟩),.pointer (some ⟨RB,0,none⟩),.int .i64 x,undef,undef,U2 vm vb vt h,.func (.func 98) #[] lb,.int .i64 x,undef,undef,undef,undef,undef,undef,undef,undef,undef,undef,undef],defers:=[]})
  (((Ext.abides al2.below.size).and (Cell.abides _)).and (Abides.pure _)) (fun c=> ?hJx) (fun _ _ _=>((((Ext.abides al2.below.size).and (Cell.abides _)).and (Abides.pure _)).and (Abides.pure _))) ⟨⟨al2,bu7⟩,rfl⟩ ?assign ?body ?done ?stop)
 case hJx=>exact fun _ _ _ _ _ h _ ht=>⟨⟨h.1.1,ht.an1 h.1.2.1 al2.below.size,h.1.2.2.turn ht⟩,h.2⟩
 case assign=>
  rintro l Hc pre x W args hl hWc K5 ⟨⟨hxc,hcc⟩,hall⟩ rfl hpre
  gi_wp2
  exact⟨hWc,⟨⟨hxc,hcc⟩,hall⟩,by first|rfl|trivial⟩
 case body=>
  rintro l rc Hc pre x args a1 W hl hrc hWc K5 he hpre ⟨⟨⟨hxc,hcc⟩,hall⟩,rfl⟩
  have hhc:=hhm.mono (hle3.trans K5)
  have hd0:=lift (hle3.trans K5) hc0
  have hd1:=lift (hle3.trans K5) hc1
  have hd2:=lift (hle3.trans K5) hc2
  have hd3:=lift (hle3.trans K5) hc3
  have hdS:=lift (hle3.trans K5) hcS
  have hxm:=bd2 (hpre.subset (show x∈pre++[x]by simp))
  have hm3:=hv.m3
  have hxI:K8 x:=by unfold K8;omega
  gi_wp2_with (gi_at_call 66;refine(Calls.wide (aO2 _ _ _ _ hv x hxI Hc W hWc hhc)).mono ?_;rintro e w4 ⟨lb2,H4,rfl,hx4,hit2⟩)
  have hw4:=hx4.holds
  have bd9:=hx4.le hWc
  have co9:=(hx4.below.block l (Array.getElem?_eq_some_iff.1 hrc).1).trans hrc
  have eT2:=hhc.mono bd9
  refine bu3 (k:=3) (H:=H4) co9 rfl (enters_of Tryz.func99 (by kernel_rfl) rfl) hw4 hit2 (fun _ _ _ ⟨_,e,_⟩=>by rw[e];rfl) (fun _ _ _ _ hle ⟨v,e,hs⟩=>⟨v,e,hs.mono hle⟩)
   (J:=fun Hd pr V=>Ext W Hc V Hd∧(pr.any fun p=>(ad4 h p).all fun t=>decide (t∈S))=false)
   (Jx:=fun c Hd pr V=>(c= .exit 1∧Ext W Hc V Hd)∧(pr.any fun p=>(ad4 h p).all fun t=>decide (t∈S))=true)
   (J2:=fun Hd pr y args a1 V=>(Ext W Hc V Hd∧(pr.any fun p=>(ad4 h p).all fun t=>decide (t∈S))=false)∧∃RX vp,Row Hd W.heap.size V 124 RX (M3 h y)∧a1={tmps:= #[U2 vm vb vt h,.int .u64 (ub S:Nat),.pointer (some ⟨B,0,none⟩),.pointer (some ⟨SB,0,none⟩),.pointer (some ⟨RB,0,none⟩),.int .i64 x,undef,.pointer (some ⟨RX,0,none⟩),U2 vm vb vt h,.func (.func 98) #[] lb,.int .i64 x,U2 vm vb vt h,.int .i64 x,.func (.func 99) #[] lb2,vp,arr (M3 h y),undef,undef,undef,undef,undef,undef],defers:=[]})
   ((Ext.abides hx4.below.size).and (Abides.pure _)) (fun c=> ?et4) (fun _ _ _=> ?cp0) ⟨hx4,rfl⟩ ?assign2 ?bM5 ?bM6 ?bM7
  case et4=>exact fun _ _ _ _ _ h _ ht=>⟨⟨h.1.1,ht.an1 h.1.2 hx4.below.size⟩,h.2⟩
  case cp0=>exact fun _ _ _ _ _ ⟨h1,RX,vp,hr,e⟩ _ ht=>⟨⟨ht.an1 h1.1 hx4.below.size,h1.2⟩,RX,vp,hr.turn ht,e⟩
  case assign2=>
   rintro l2 Hd pr y V args hl2 hVd ay4 ⟨hxd,hany⟩ ⟨vp,rfl,hsp⟩ hpr
   obtain⟨r0,r1,r2,r3,hr⟩:=bk4 (ah2 h y)
   rw[hr]
   simp only[arr,List.map_cons,List.map_nil]
   gi_wp2
   exact⟨hVd.alloc _,⟨hxd.alloc _,hany⟩,V.heap.size,vp,Row.new (xs:=[r0,r1,r2,r3]) hVd hxd.below.size rfl,by first|rfl|trivial⟩
  case bM5=>
   rintro l2 rc2 Hd pr y args a1 V hl2 dq6 hVd ay4 ⟨vp',rfl,hsp⟩ hpr ⟨⟨hxd,hany⟩,RX,vp,hrow,rfl⟩
   have hpl:=af1 hv x y (hpr.subset (show y∈pr++[y]by simp))
   have hVf:=hVd.put hrow.at_
   have aB9:=j5.L9 hrow.free (.cells ((M3 h y).map (Value.int .i64)).toArray 124 (0,0))
   have hput:=j5.G7 Hd RX (.cells ((M3 h y).map (Value.int .i64)).toArray 124 (0,0))
   generalize Hd.put RX (.cells ((M3 h y).map (Value.int .i64)).toArray 124 (0,0))=Hf at*
   have ai9:=(bd9.trans ay4).trans aB9
   have hhf:=hhc.mono ai9
   have ar4:=fun(z:WB Hf V)=>bt4 vm vb vt h (M3 h y) Hf z.w z.h hhf hv.t4 (ah2 h y) (aB5 hv hpl)
   rw[aZ7 hv hpl]at ar4
   obtain⟨r0,r1,r2,r3,hr⟩:=bk4 (ah2 h y)
   rw[hr]at ar4 hput ⊢
   simp only[arr,List.map_cons,List.map_nil]at ar4 ⊢
   have g0:=fun(w:World) (hw:j4 Hf w)=>D7 hput hw 0
   have g1:=fun(w:World) (hw:j4 Hf w)=>D7 hput hw 1
   have g2:=fun(w:World) (hw:j4 Hf w)=>D7 hput hw 2
   have g3:=fun(w:World) (hw:j4 Hf w)=>D7 hput hw 3
   simp at g0 g1 g2 g3
   have e0:=lift ai9 hd0
   have e1:=lift ai9 hd1
   have e2:=lift ai9 hd2
   have e3:=lift ai9 hd3
   have eS:=lift ai9 hdS
   have hz:=bE5 (aT5 hv y) hS
   clear hr hd0 hd1 hd2 hd3 hc0 hc1 hc2 hc3 hdS hcS
   obtain⟨lt,hlt⟩:∃lt,Hid (ad4 h y=lt):=⟨_,rfl⟩
   rw[hlt.out]at hz ar4
   cases hb:lt.all fun t=>decide (t∈S)
   all_goals
    rw[hb]at hz
    gi_wp2
    have hne:Nonempty (WB Hf V):=⟨⟨V,hVf,Below.refl _ _⟩⟩
    refine as5 (C:=fun w'=>∃x:WB Hf V,w'=x.w) (by kernel_rfl) (by kernel_rfl) (by kernel_rfl) ⟨⟨V.drew,hVf.drew,(Below.refl _ _).drew⟩,rfl⟩ ?_
    repeat go_big_quiet_step((go_at_call 67;exact Calls.am7 (ar4 _)))
    refine wpQuiet_nil ?_
    clear hne
    rintro V2 ⟨⟨_,hV2,hb2⟩,rfl⟩
    gi_wp2
   ·exact⟨hV2.mono aB9,hxd.step (hb2.mono hxd.below.size) (hV2.mono aB9),by rw[List.any_append,hany];simp only[List.any_cons,List.any_nil];rw[hlt.out,hb];rfl⟩
   ·exact⟨hV2.mono aB9,⟨rfl,hxd.step (hb2.mono hxd.below.size) (hV2.mono aB9)⟩,by rw[List.any_append];simp only[List.any_cons,List.any_nil];rw[hlt.out,hb];simp⟩
  case bM6=>
   rintro Hd V hVd ay4 ⟨hxd,hany⟩
   have hVc:=hVd.mono (bd9.trans ay4)
   have aH4:=hcc.below hxd.below
   have hcf:=aH4.cell
   have hff:=aH4.fz
   gi_wp2
   refine⟨hVc.setCell hcc.free _,⟨rfl,(hxc.step (hxd.below.mono hxc.below.size) hVc).setCell hcc.base hcc.free _,aH4.set _⟩, ?_⟩
   rw[List.all_append];simp only[List.all_cons,List.all_nil]
   rw[show aJ4 h S x=false from hany];simp
  case bM7=>
   rintro c Hd pr V hVd ay4 hpr ⟨⟨rfl,hxd⟩,hany⟩
   have hVc:=hVd.mono (bd9.trans ay4)
   have aH4:=hcc.below hxd.below
   gi_wp2
   refine⟨hVc,⟨hxc.step (hxd.below.mono hxc.below.size) hVc,aH4⟩, ?_⟩
   rw[List.all_append,hall];simp only[List.all_cons,List.all_nil]
   have:aJ4 h S x=true:=by
    unfold aJ4
    rw[List.any_eq_true]at hany ⊢
    obtain⟨p,hp,hpp⟩:=hany
    exact⟨p,hpr.subset hp,hpp⟩
   rw[this];rfl
 case done=>
  rintro D Hc W hD hWc K5 hDc ⟨⟨hxc,hcc⟩,hall⟩
  have hcf:=hcc.cell
  have hff:=hcc.fz
  have hDW:=hWc.at_ _ _ hDc
  go_wp2_with fail
  rw[Exit.noGoto_ret]
  have hDlt:=(Array.getElem?_eq_some_iff.1 hDW).1
  have et5:(W.setCell ⟨RB,0,none⟩ (.bool true)).heap[D]? =some (.deferred (some [])):=(Below.heap_setCell _ _ _ _ (by rintro rfl;rw[hcc.at_]at hDW;cases hDW)).trans hDW
  have hRD:RB≠D:=by rintro rfl;rw[hcc.at_]at hDW;cases hDW
  have bM8:=al2.below.size
  refine ak6 et5 (bp1 rfl _ _ RB (.bool true) rfl ((hcc.set (.bool true)).am3 hRD).cell (by kernel_rfl)) ⟨by rw[ar0,hall],ao7 (hxc.below.setCell hcc.base _) (by omega) (by simp;omega)⟩
 case stop=>
  rintro D c Hc pre W hD hWc K5 hDc hpre ⟨⟨rfl,hxc,hcc⟩,hall⟩
  have hDW:=hWc.at_ _ _ hDc
  have hDlt:=(Array.getElem?_eq_some_iff.1 hDW).1
  have hRD:RB≠D:=by rintro rfl;rw[hcc.at_]at hDW;cases hDW
  have bM8:=al2.below.size
  gi_wp2
  rw[Exit.noGoto_ret]
  refine ak6 hDW (bp1 rfl _ _ RB (.bool false) rfl (hcc.am3 hRD).cell (by kernel_rfl)) ⟨?_,ao7 hxc.below (by omega) (by omega)⟩
  have:ar0 h S=false:=by
   unfold ar0
   rw[List.all_eq_false]at hall ⊢
   obtain⟨y,hy,hyf⟩:=hall
   exact⟨y,hpre.subset hy,hyf⟩
  rw[this]
end
section
open Go.RowKit
def cp1 (u:Nat):Nat:=(List.range 4).countP fun i=>u.testBit i
theorem cP3 (u:Fin 16) (w:World):Calls Tryz.prog 143 #[.int .u64 (u.val:Nat)] w fun e w'=>e= .returned (.int .i64 (cp1 u.val:Nat))∧w=w':=by
 obtain⟨x,hx⟩:∃x:Int,x=((u.val:Nat):Int):=⟨_,rfl⟩
 rw[←hx]
 replace hx:=fe6 hx
 go_enter Tryz.func143,Tryz.ntmps143
 go_wp2
 go_ret
 refine⟨?_,rfl⟩
 rw[hx.out]
 clear hx x
 refine(show Ending.returned (Value.int .i64 _)=_ from an6 ?_)
 revert u
 decide+kernel
theorem dq7 (u:Nat) (hu:u<16) (w:World):Calls Tryz.prog 95 #[.int .u64 (u:Nat)] w fun e w'=>e= .returned (.int .i64 (cp1 u:Nat))∧w=w':=by
 go_enter Tryz.func95,Tryz.ntmps95
 go_wp2_with(first|(go_at_call 143;refine(cP3 ⟨u,hu⟩ _).mono ?_;rintro e w' ⟨rfl,rfl⟩))
 go_ret
 exact⟨rfl,rfl⟩
theorem dI7 {l:List Int} (hl:∀x∈l,0≤x∧x≤3) (hs:l.Pairwise (·<·)):cp1 (ub l)=l.length:=by
 have h1:=cM2 hl hs
 have h2:=congrArg List.length h1
 unfold af3 aJ6 at h2
 rw[fg5]at h2
 unfold cp1
 rw[List.countP_eq_length_filter,h2]
end
section
open Go.RowKit
attribute [local go_sem] j4.drew j4.alloc j4.drewN WB.holds Oper.semAt_some Q9 O1 J7
theorem bk5 (va:Value) (xs:List Int) (H:j5) (w:World) (hw:j4 H w) (ha:Sl H va xs) (hl:xs.length≤1000000):
 Calls Tryz.prog 96 #[va] w (bh8 w H 3 xs):=by
 have ha':=ha
 have heq:∀(w:World) (a:Option Addr) (n c n' c':Nat),_:=fun w a n c n' c'=>Go.Lib.run_eql_slice_nil (P:=Tryz.prog) w 24 3 a n c n' c' Tryz.underlying24
 obtain⟨aa,ca,rfl,ha1,ha2,ha3,h5⟩:=ha
 cases aa with
 |none=>
  have hx:xs=[]:=by
   rcases h5 with h|⟨b,o,cur,e,fr,h,_⟩
   ·exact h
   ·cases h
  subst hx
  go_enter Tryz.func96,Tryz.ntmps96
  go_wp2
  go_ret
  exact⟨_,H,rfl,Ext.refl hw,Own.nil _ _ _ _⟩
 |some a=>
  clear h5
  go_enter Tryz.func96,Tryz.ntmps96
  go_wp2_with(first|((refine aj2 (w0:=w) (H0:=H) ag8 rfl _ _ rfl ((Ext.refl hw).alloc _) rfl (Own.emptyAt (heap_alloc_new _ _) (fh0 _) (hw.D6 (fh0 _))) rfl ha' (by simp[Enc.M4];omega) (by simp;omega) ?_;intro vB wB ao5 hxB hwB hgB;rw[ff9]at ao5)))
  go_ret
  exact⟨_,H,rfl,hxB,ao5⟩
theorem aO3 {α:Type} [Enc α] {P:Program} {H:j5} {base:Nat} {w:World} {t e:TypeId} {v:Value} {xs:List α} {ops:Array Oper} {o:Oper} {a:Act} {Q:Exit→Act→World→Prop} {K:Act→World→Prop} {E:Prop} {r:Option Nat} {k:Nat}
 (T:af2 P t e α) (hgd:o.guard=none) (s y:Operand) (ho:o.op= .call {callee:= .builtin .append,args:= #[s,y],argTypes:= #[t,t]})
 (hs:a.eval s=v) (hown:Own H base w e v xs) {x:α} {cs:List Value} {g c:Nat} (hy:a.eval y= .slice (some ⟨g,0,none⟩) 1 c) (hx:Enc.rep H x cs) (hcs:∀(j:Nat) (u:Value),cs[j]? =some u→w.cell? ⟨g,j,none⟩=some u) (hw:j4 H w) (hlen:(xs.length+1)*Enc.M4 α≤140737488355328) (h63:xs.length+1≤9223372036854775807) (hb:base≤w.heap.size)
 (h:∀v' w',Own H base w' e v' (xs++[x])→w.grownBy w' v.ownBlock→j4 H w'→(v'.ownBlock=v.ownBlock∨v'.ownBlock=some w.heap.size)→K (a.put o.dst v') w'):if Region.wanted o (yielded ops a.tmps)=true then Oper.wpIn (FW r) k P o a w K Q else E:=by
 obtain⟨v',w',hr,h2,h3,h4,h5⟩:=bH0 (P:=P) T o.type hown hx hcs hw hlen h63 hb c
 rw[if_pos (by simp[Region.wanted,hgd])]
 unfold Oper.wpIn
 refine⟨fun _ _=>trivial, ?_⟩
 rw[Oper.semAt_eq _ _ _ (fun c e=>by rw[ho]at e;cases e)]
 unfold execOp
 simp only[ho,resolve,invoke,builtin,Sem.run_bind,Sem.run_pure,Result.andThen_ok,List.map_toArray,List.map_cons,List.map_nil,hs,hy,hr]
 exact h v' w' h2 h3 h4 h5
def aW4 (h:A9) (pre:List (List (List Int))) (b:List (List Int)) (n:Int):Prop:=
 (pre=[]∧b=[]∧n=(h.ts.length:Int)+1)∨(pre≠[]∧b=ae6 (Y7 h) pre∧n=(Y7 h b:Nat))
theorem bV1 (f:List (List Int)→Nat) {pre:List (List (List Int))} (hp:pre≠[]) (p:List (List Int)):ae6 f (pre++[p])=if f p<f (ae6 f pre)then p else ae6 f pre:=by
 unfold ae6
 rw[bh5]
 have:(pre++[p]).getD 0 default=pre.getD 0 default:=by
  cases pre with
  |nil=>exact absurd rfl hp
  |cons x l=>rfl
 rw[this];rfl
theorem cf9 (f:List (List Int)→Nat) (p:List (List Int)):ae6 f [p]=p:=by
 unfold ae6;simp[bst]
theorem cg0 {h:A9} {pre:List (List (List Int))} {b:List (List Int)} {n:Int} (s:aW4 h pre b n) (p:List (List Int)):aW4 h (pre++[p]) (if((Y7 h p:Nat):Int)<n then p else b) (if((Y7 h p:Nat):Int)<n then((Y7 h p:Nat):Int)else n):=by
 refine .inr ⟨by simp, ?_⟩
 rcases s with⟨rfl,rfl,rfl⟩|⟨hne,rfl,rfl⟩
 ·have:=bG9 h p
  rw[if_pos (by omega),if_pos (by omega),ff9,cf9]
  exact⟨rfl,rfl⟩
 ·rw[bV1 _ hne]
  by_cases e:Y7 h p<Y7 h (ae6 (Y7 h) pre)
  ·have e':((Y7 h p:Nat):Int)<(Y7 h (ae6 (Y7 h) pre):Nat):=by omega
   simp only[if_pos e,if_pos e',and_self]
  ·have e':¬((Y7 h p:Nat):Int)<(Y7 h (ae6 (Y7 h) pre):Nat):=by omega
   simp only[if_neg e,if_neg e',and_self]
theorem cp3 {f:List (List Int)→Nat} {b:List (List Int)} (hb:f b=0):∀(r:List (List (List Int))),bst f r b=b
 |[]=>rfl
 |y::r=>by simp only[bst];rw[if_neg (by omega)];exact cp3 hb r
theorem bV2 {f:List (List Int)→Nat} {pre xs:List (List (List Int))} (hp:pre<+:xs) (hne:pre≠[]) (hz:f (ae6 f pre)=0):ae6 f xs=ae6 f pre:=by
 obtain⟨r,rfl⟩:=hp
 unfold ae6 at hz ⊢
 rw[bh5]
 have:(pre++r).getD 0 default=pre.getD 0 default:=by
  cases pre with
  |nil=>exact absurd rfl hne
  |cons x l=>rfl
 rw[this]
 exact cp3 hz r
structure Mine (base:Nat) (Hc Hj:j5) (W:World):Prop where
 holds:j4 Hj W
 own:∀b o,Hj b=some o→o.isCells=true∧Hc b=none∧base≤b
def bk6 (base BB NB:Nat) (Hc:j5) (W:World) (b:List (List Int)) (n:Int):Prop:=
 ∃Hj v,Cell Hc W base BB 28 v∧Cell Hc W base NB 3 (.int .i64 n)∧Mine base Hc Hj W∧Hj BB=none∧Hj NB=none∧Own Hj base W 24 v b∧(∀g,v.ownBlock=some g→Hc g=none)
theorem Mine.turn {base n0:Nat} {Hc Hc' Hj:j5} {W W':World} (m:Mine base Hc Hj W) (ht:Q6 n0 W Hc W' Hc'):Mine base Hc' Hj W':=by
 have key:∀b o,Hj b=some o→W'.heap[b]? =some o∧Hc' b=none:=fun b o e=>by
  obtain⟨hc,hn,_⟩:=m.own b o e
  have hb:=m.holds.at_ b o e
  cases o with
  |cells cs t fr=>exact ht.keep b cs t fr hb hn
  |_=>cases hc
 exact⟨⟨fun b o e=>(key b o e).1⟩,fun b o e=>⟨(m.own b o e).1,(key b o e).2,(m.own b o e).2.2⟩⟩
theorem Own.turn {α:Type} [Enc α] {n0 base:Nat} {Hc Hc' Hj:j5} {W W':World} {e:TypeId} {v:Value} {xs:List α} (h:Own Hj base W e v xs) (hn:∀g,v.ownBlock=some g→Hc g=none) (ht:Q6 n0 W Hc W' Hc'):
 Own Hj base W' e v xs∧(∀g,v.ownBlock=some g→Hc' g=none):=by
 obtain⟨cells,⟨hl,ho⟩,hr,hf,hb⟩:=h
 rcases ho with⟨rfl,hz⟩|⟨g,cap,cur,rfl,hbg,hg,rest⟩
 ·exact⟨⟨cells,⟨hl,.inl ⟨rfl,hz⟩⟩,hr,hf,hb⟩,fun g e=>by cases e⟩
 ·obtain⟨h1,h2⟩:=ht.keep g cur e _ hg (hn g rfl)
  exact⟨⟨cells,⟨hl,.inr ⟨g,cap,cur,rfl,hbg,h1,rest⟩⟩,hr,hf,hb⟩,fun g' e=>by cases e;exact h2⟩
theorem bk6.turn {base BB NB n0:Nat} {Hc Hc':j5} {W W':World} {b:List (List Int)} {n:Int} (s:bk6 base BB NB Hc W b n) (ht:Q6 n0 W Hc W' Hc'):bk6 base BB NB Hc' W' b n:=by
 obtain⟨Hj,v,c1,c2,m,n1,n2,ho,hn⟩:=s
 obtain⟨ho',hn'⟩:=ho.turn hn ht
 exact⟨Hj,v,c1.turn ht,c2.turn ht,m.turn ht,n1,n2,ho',hn'⟩
theorem Own.aq0 {α:Type} [Enc α] {Hj Hc:j5} {base base' B:Nat} {W:World} {e t:TypeId} {v u:Value} {xs:List α} (h:Own Hj base W e v xs) (c:Cell Hc W base' B t u) (ne:e≠t):v.ownBlock≠some B:=by
 intro hv
 obtain⟨cur,h1⟩:=h.X7 hv
 rw[c.at_]at h1
 simp only[Option.some.injEq,Obj.cells.injEq]at h1
 exact ne h1.2.1.symm
theorem Own.bH9 {α:Type} [Enc α] {H H':j5} {base:Nat} {W:World} {e:TypeId} {v:Value} {xs:List α} (h:Own H base W e v xs) (hle:D8 H H') (hn:∀k,v.ownBlock=some k→H' k=none):Own H' base W e v xs:=by
 obtain⟨cells,ho,hr,_,hb⟩:=h
 exact⟨cells,ho,hr.mono hle,hn,hb⟩
theorem Own.bg0 {H H':j5} {base:Nat} {W:World} {e:TypeId} {v:Value} {xs:List Int} (h:Own H base W e v xs) (hn:∀k,v.ownBlock=some k→H' k=none):Own H' base W e v xs:=by
 obtain⟨cells,ho,hr,_,hb⟩:=h
 exact⟨cells,ho,af6.2 (af6.1 hr),hn,hb⟩
theorem Mine.below {base:Nat} {Hc Hj:j5} {W W':World} (m:Mine base Hc Hj W) (hb:Below W.heap.size W W'):Mine base Hc Hj W':=⟨m.holds.below hb,m.own⟩
theorem Mine.empty (base:Nat) (Hc:j5) (W:World):Mine base Hc (fun _=>none) W:=⟨⟨fun _ _ h=>by cases h⟩,fun _ _ h=>by cases h⟩
theorem Mine.row {base:Nat} {Hc Hj H':j5} {W0 W:World} {e:TypeId} {v:Value} {xs:List Int} (m:Mine base Hc Hj W) (hj0:j4 Hj W0) (hc0:j4 Hc W0) (h:Own H' W0.heap.size W e v xs) (hbase:base≤W0.heap.size):
 ∃Hj',D8 Hj Hj'∧Mine base Hc Hj' W∧Sl Hj' v xs∧∀b,b<W0.heap.size→Hj' b=Hj b:=by
 have h1:Own Hj W0.heap.size W e v xs:=h.bg0 (fun k hk=>hj0.D6 (h.lt k hk).1)
 obtain⟨Hj',hle,hh,hs,hsame⟩:=h1.freeze m.holds
 refine⟨Hj',hle,⟨hh,fun b o eb=> ?_⟩,hs,fun b hb=>hsame b (fun e=>by have:=(h.lt b e).1;omega)⟩
 by_cases hv:v.ownBlock=some b
 ·obtain⟨cur,hr⟩:=h1.X7 hv
  have:=hh.at_ b o eb
  rw[hr]at this
  cases this
  have hlt:=(h.lt b hv).1
  exact⟨rfl,hc0.D6 hlt,by omega⟩
 ·rw[hsame b hv]at eb;exact m.own b o eb
theorem Mine.finish {w W:World} {H Hc Hj:j5} {e:TypeId} {v:Value} {xs:List (List Int)} (hw:j4 H w) (hB:Below w.heap.size w W) (m:Mine w.heap.size Hc Hj W) (h:Own Hj w.heap.size W e v xs):∃H',Ext w H W H'∧Sl H' v xs:=by
 obtain⟨H2,hle,hh,hs,hsame⟩:=h.freeze m.holds
 have hge:∀b o,H2 b=some o→w.heap.size≤b:=fun b o eb=>by
  by_cases hv:v.ownBlock=some b
  ·exact(h.lt b hv).1
  ·rw[hsame b hv]at eb;exact(m.own b o eb).2.2
 refine⟨fun b=>if b<w.heap.size then H b else H2 b,⟨hB,⟨fun b o eb=> ?_⟩,fun b hb=>if_pos hb⟩,hs.mono fun b o eb=> ?_⟩
 ·by_cases hb:b<w.heap.size
  ·rw[if_pos hb]at eb;exact(hB.block b hb).trans (hw.at_ _ _ eb)
  ·rw[if_neg hb]at eb;exact hh.at_ _ _ eb
 ·rw[if_neg (by have:=hge b o eb;omega)];exact eb
theorem Mine.setCell {base:Nat} {Hc Hj:j5} {W:World} (m:Mine base Hc Hj W) {a:Addr} (ha:Hj a.block=none) (u:Value):Mine base Hc Hj (W.setCell a u):=⟨m.holds.setCell ha u,m.own⟩
theorem Mine.am3 {base D:Nat} {Hc Hj:j5} {W:World} {o o':Obj} (m:Mine base Hc Hj W) (hD:W.heap[D]? =some o) (hc:o.isCells=false):Mine base Hc Hj (W.putObj D o'):=
 ⟨⟨fun b ob eb=>(World.putObj_heap_other (by rintro rfl;have h1:=m.holds.at_ _ _ eb;rw[hD]at h1;cases h1;have:=(m.own _ _ eb).1;rw[hc]at this;cases this)).trans (m.holds.at_ _ _ eb)⟩,m.own⟩
theorem Own.am3 {α:Type} [Enc α] {H:j5} {base D:Nat} {W:World} {e:TypeId} {v:Value} {xs:List α} {o o':Obj} (h:Own H base W e v xs) (hD:W.heap[D]? =some o) (hc:o.isCells=false):Own H base (W.putObj D o') e v xs:=by
 obtain⟨cells,⟨hl,ho⟩,rest⟩:=h
 refine⟨cells,⟨hl, ?_⟩,rest⟩
 rcases ho with hn|⟨g,cap,cur,rfl,hbg,hg,r⟩
 ·exact .inl hn
 ·refine .inr ⟨g,cap,cur,rfl,hbg,(World.putObj_heap_other ?_).trans hg,r⟩
  rintro rfl;rw[hD]at hg;cases hg;cases hc
theorem bp3 {P:Program} {fn:Func} {p q:Tmp} {ty tz:TypeId} (h:fn.results= #[.cell p ty,.cell q tz]) (tmps:Array Value) (w:World) (g k:Nat) (v u:Value) (hp:tmps.getD p undef= .pointer (some ⟨g,0,none⟩)) (hq:tmps.getD q undef= .pointer (some ⟨k,0,none⟩)) (hc:w.cell? ⟨g,0,none⟩=some v) (hd:w.cell? ⟨k,0,none⟩=some u)
 (hna:(isAgg ty).run P w= .ok false w) (hnb:(isAgg tz).run P w= .ok false w):(results fn tmps).run P w= .ok (.tuple #[v,u]) w:=by
 have hp':tmps[p]?.getD undef= .pointer (some ⟨g,0,none⟩):=by simpa using hp
 have hq':tmps[q]?.getD undef= .pointer (some ⟨k,0,none⟩):=by simpa using hq
 simp[results,h,hp',hq',asAddr,loadVar,Sem.run_bind,hna,hnb,go_sem,hc,hd]
end
section
open Go.RowKit
attribute [local go_sem] j4.drew j4.alloc j4.drewN WB.holds
def aH5 (h:A9) (a:List Int × Nat) (s:Nat):List Int × Nat:=
 if(decide ((af3 s).length<a.2) || (decide ((af3 s).length=a.2)&&decide (cmpL (af3 s) a.1<0)))&&ar0 h (af3 s)then(af3 s,(af3 s).length)else a
def ai0 (h:A9) (k:Nat):List Int × Nat:=(List.range k).foldl (aH5 h) ([],h.ts.length+1)
theorem aW5 (h:A9) (k:Nat):ai0 h (k+1)=aH5 h (ai0 h k) k:=by
 unfold ai0;rw[List.range_succ,List.foldl_append];rfl
def aT6 (h:A9):List Int:=if valid h then(ai0 h (2 ^ h.ts.length)).1 else []
theorem bk7 (s:Nat):(af3 s).length≤4:=bZ6 s 4
theorem cP4:∀s:Fin 16,ub (af3 s.val)=s.val:=by decide
theorem bM9 {s:Nat}:∀x∈af3 s,0≤x∧x≤3:=by
 intro x hx
 simp only[af3,aJ6,List.mem_map,List.mem_filter,List.mem_range]at hx
 obtain⟨i,⟨hi,_⟩,rfl⟩:=hx
 show(0:Int)≤(i:Int)∧(i:Int)≤3
 omega
theorem bN0 (h:A9):∀k,(ai0 h k).2≤max 4 (h.ts.length+1)
 |0=>by show h.ts.length+1≤_;omega
 |k+1=>by
  rw[aW5];unfold aH5
  have h1:=bN0 h k
  have h2:=bk7 k
  split
  ·show(af3 k).length≤_;omega
  ·exact h1
theorem cG4:∀a b:List Int,-1≤cmpL a b∧cmpL a b≤1
 |[],[]=>by simp[cmpL]
 |[],_::_=>by simp[cmpL]
 |_::_,[]=>by simp[cmpL]
 |a::l,b::m=>by unfold cmpL;split;exact cG4 l m;exact cE8 a b
theorem dd9 (vm vb vt:Value) (h:A9) (H:j5) (w:World) (hw:j4 H w) (hh:Hou H vm vb vt h):
 Calls Tryz.prog 35 #[U2 vm vb vt h] w (Post w H fun v H'=>∃u,v= .tuple #[u,.int .i64 (aq2 (valid h))]∧Sl H' u (aT6 h)):=by
 obtain⟨at',ct,rfl,ht1,ht2⟩:=hh.t.form
 cases hv:valid h
 ·have he:aq2 (valid h)=40:=by rw[hv];rfl
  go_enter Tryz.func35,Tryz.ntmps35
  go_wp2_with(first|(refine af8 rfl _ rfl (Ext.refl hw) ?_;intro B w1 H1 hle hx hB hBw;obtain⟨hc0,hc1,hc2,hc3⟩:=R6 hB;clear hB hw;have hw1:=hx.holds)|(go_at_call 56;refine(aj7 _ _ _ _ _ _ hw1 (hh.mono hle)).mono ?_;rintro e w' ⟨rfl,hb2⟩))
  go_ret2
  exact⟨_,H1,rfl,hx.step (hb2.mono hx.below.size) (hw1.below hb2),_,rfl,by unfold aT6;rw[hv];exact Sl.Y9 _⟩
 ·have he:aq2 (valid h)=0:=by rw[hv];rfl
  have hV:=ad3.1 hv
  have ht4:=hV.t4
  have htold:Hid (aT6 h=(ai0 h (2 ^ h.ts.length)).1):=by show _=_;unfold aT6;rw[hv];rfl
  obtain⟨N,hN⟩:∃N,Hid (N=2 ^ h.ts.length):=⟨2 ^ h.ts.length,rfl⟩
  have eT3:N≤16:=by rw[hN.out];exact Nat.pow_le_pow_right (by omega) (show h.ts.length≤4 from ht4)
  rw[←hN.out]at htold
  go_enter Tryz.func35,Tryz.ntmps35
  go_wp2_with(first|(refine af8 rfl _ rfl (Ext.refl hw) ?_;intro B w1 H1 hle hx hB hBw;obtain⟨hc0,hc1,hc2,hc3⟩:=R6 hB;clear hB hw;have hw1:=hx.holds)|(go_at_call 56;refine(aj7 _ _ _ _ _ _ hw1 (hh.mono hle)).mono ?_;rintro e w' ⟨rfl,hb2⟩;rw[he];have hw2:=hw1.below hb2))
  rw[show IntKind.u64.wrap (2 ^ h.ts.length)=(N:Int)by
   rw[hN.out]
   rcases(by omega:h.ts.length=0∨h.ts.length=1∨h.ts.length=2∨h.ts.length=3∨h.ts.length=4)with e|e|e|e|e<;>rw[e]<;>decide]
  have hx2:=hx.step (hb2.mono hx.below.size) hw2
  clear hb2
  go_loopw [5,6,7,8,9,23] (fun v f _ _ _ i wr=>∃(k:Nat) (Hc:j5) (acc:List Int) (fn:Nat),k≤N∧i= .int .u64 k∧f= .int .i64 fn∧Hid (ai0 h k=(acc,fn))∧D8 H1 Hc∧Ext w H wr Hc∧Sl Hc v acc) (fun _ _ _ _ _ i _=>N-(intOf i).toNat)
  case atStart=>exact⟨0,H1,[],h.ts.length+1,fh3 _,rfl,rfl,rfl,D8.refl _,hx2,Sl.Y9 _⟩
  case round=>
   clear hx hx2 hw2 hw1
   obtain⟨k,Hc,acc,fn,hk,rfl,rfl,hrun,hle1,E5,hacc⟩:=hrel
   obtain⟨aa,ca,rfl,eT4,eT5⟩:=hacc.form
   have hwr:=E5.holds
   have hfn:fn≤5:=by have:=bN0 h k;rw[hrun.out]at this;show fn≤5;exact fh1 this (by omega)
   by_cases hlk:k<N
   ·have dP9:k<16:=by omega
    have hsucc:Hid (ai0 h (k+1)=aH5 h (acc,fn) k):=by show _=_;rw[aW5,hrun.out]
    have hub:=cP4 ⟨k,dP9⟩
    simp only at hub
    have hbd:=bM9 (s:=k)
    have hlen:=bk7 k
    have hset:∀(H:j5) (w:World),j4 H w→Calls Tryz.prog 61 #[.int .u64 k] w (Post w H fun v H'=>Sl H' v (af3 k)):=fun H w hw=>cx9 k dP9 H w hw
    obtain⟨l,hl⟩:∃l,Hid (l=af3 k):=⟨_,rfl⟩
    unfold aH5 at hsucc
    rw[←hl.out]at hub hbd hlen hset hsucc
    replace hset:=fe6 hset
    have hc:=cG4 l acc
    obtain⟨D,hD⟩:∃D,Hid (D=cmpL l acc):=⟨_,rfl⟩
    simp only[←hD.out]at hsucc hc
    obtain⟨S,hS⟩:∃S,Hid (S=ar0 h l):=⟨_,rfl⟩
    simp only[←hS.out]at hsucc
    have hcmp:∀(va vb:Value) (H:j5) (w:World),j4 H w→Sl H va l→Sl H vb acc→Calls Tryz.prog 62 #[va,vb] w (I1 w (.int .i64 D)):=fun va vb H w hw h1 h2=>by rw[hD.out];exact cx6 _ _ _ _ H w hw h1 h2
    have bA8:∀(H:j5) (w:World),j4 H w→D8 H1 H→Calls Tryz.prog 57 #[U2 vm vb (.slice at' h.ts.length ct) h,.int .u64 k] w (I1 w (.bool S)):=fun Hq wq hwq hlq=>by
     rw[hS.out,show((k:Nat):Int)=((ub l:Nat):Int)by rw[hub]]
     exact co7 _ _ _ _ hV l hbd Hq wq hwq ((hh.mono hle).mono hlq)
    replace hcmp:=fe6 hcmp
    replace bA8:=fe6 bA8
    clear hub hbd
    replace hsucc:=fe6 hsucc
    go_upto_region 11 with(go_at_call 61;refine(hset.out _ _ hwr).mono ?_;rintro e w' ⟨v,H3,rfl,hx3,hs3⟩;obtain⟨a3,c3,rfl,eT6,eT7⟩:=hs3.form)
    have hw3:=hx3.holds
    have hle3:=hx3.le hwr
    have hxt:=E5.trans hx3
    have hd0:=lift (hle1.trans hle3) hc0
    have hd1:=lift (hle1.trans hle3) hc1
    have hd2:=lift (hle1.trans hle3) hc2
    have hd3:=lift (hle1.trans hle3) hc3
    have bk8:=hacc.mono hle3
    clear hx3 E5 hwr
    by_cases h1:l.length<fn
    ·have b1:decide (((l.length:Nat):Int)<((fn:Nat):Int))=true:=by simpa using h1
     cases S
     ·have hsn:Hid (ai0 h (k+1)=(acc,fn)):=by
       show _=_
       rw[hsucc.out.out];simp[h1]
      go_wp2_with(first|((go_at_call 57;refine(bA8.out H3 _ hw3 (hle1.trans hle3)).mono ?_;rintro e w5 ⟨rfl,hb5⟩;have hw5:=hw3.below hb5;have hx5:=hxt.step (hb5.mono hxt.below.size) hw5)))
      go_roundw
      case rel=>exact⟨k+1,H3,acc,fn,by omega,by go_num,rfl,hsn,hle1.trans hle3,hx5,bk8⟩
      case measure=>simp[intOf];omega
     ·have hsn:Hid (ai0 h (k+1)=(l,l.length)):=by
       show _=_
       rw[hsucc.out.out];simp[h1]
      go_wp2_with(first|((go_at_call 57;refine(bA8.out H3 _ hw3 (hle1.trans hle3)).mono ?_;rintro e w5 ⟨rfl,hb5⟩;have hw5:=hw3.below hb5;have hx5:=hxt.step (hb5.mono hxt.below.size) hw5)))
      go_roundw
      case rel=>exact⟨k+1,H3,l,l.length,by omega,by go_num,rfl,hsn,hle1.trans hle3,hx5,hs3⟩
      case measure=>simp[intOf];omega
    ·by_cases h2:fn=l.length
     ·subst h2
      cases h3:decide (D<0)
      ·have hsn:Hid (ai0 h (k+1)=(acc,l.length)):=by
        show _=_
        rw[hsucc.out.out];simp[h3]
       go_wp2_with(first|((go_at_call 62;refine(hcmp.out _ _ H3 _ hw3 hs3 bk8).mono ?_;rintro e w4 ⟨rfl,hb4⟩;have hw4:=hw3.below hb4;have hx4:=hxt.step (hb4.mono hxt.below.size) hw4)))
       go_roundw
       case rel=>exact⟨k+1,H3,acc,l.length,by omega,by go_num,rfl,hsn,hle1.trans hle3,hx4,bk8⟩
       case measure=>simp[intOf];omega
      ·cases S
       ·have hsn:Hid (ai0 h (k+1)=(acc,l.length)):=by
         show _=_
         rw[hsucc.out.out];simp[h3]
        go_wp2_with(first|((go_at_call 62;refine(hcmp.out _ _ H3 _ hw3 hs3 bk8).mono ?_;rintro e w4 ⟨rfl,hb4⟩;have hw4:=hw3.below hb4;have hx4:=hxt.step (hb4.mono hxt.below.size) hw4))|((go_at_call 57;refine(bA8.out H3 _ hw4 (hle1.trans hle3)).mono ?_;rintro e w5 ⟨rfl,hb5⟩;have hw5:=hw4.below hb5;have hx5:=hx4.step (hb5.mono hx4.below.size) hw5)))
        go_roundw
        case rel=>exact⟨k+1,H3,acc,l.length,by omega,by go_num,rfl,hsn,hle1.trans hle3,hx5,bk8⟩
        case measure=>simp[intOf];omega
       ·have hsn:Hid (ai0 h (k+1)=(l,l.length)):=by
         show _=_
         rw[hsucc.out.out];simp[h3]
        go_wp2_with(first|((go_at_call 62;refine(hcmp.out _ _ H3 _ hw3 hs3 bk8).mono ?_;rintro e w4 ⟨rfl,hb4⟩;have hw4:=hw3.below hb4;have hx4:=hxt.step (hb4.mono hxt.below.size) hw4))|((go_at_call 57;refine(bA8.out H3 _ hw4 (hle1.trans hle3)).mono ?_;rintro e w5 ⟨rfl,hb5⟩;have hw5:=hw4.below hb5;have hx5:=hx4.step (hb5.mono hx4.below.size) hw5)))
        go_roundw
        case rel=>exact⟨k+1,H3,l,l.length,by omega,by go_num,rfl,hsn,hle1.trans hle3,hx5,hs3⟩
        case measure=>simp[intOf];omega
     ·have b1:decide (((l.length:Nat):Int)<((fn:Nat):Int))=false:=by simpa using h1
      have b2:(((l.length:Nat):Int)==((fn:Nat):Int))=false:=by simp;omega
      have hsn:Hid (ai0 h (k+1)=(acc,fn)):=by
       show _=_
       rw[hsucc.out.out];simp[h1,show ¬l.length=fn from fun e=>h2 e.symm]
      go_wp2_with fail
      go_roundw
      case rel=>exact⟨k+1,H3,acc,fn,by omega,by go_num,rfl,hsn,hle1.trans hle3,hxt,bk8⟩
      case measure=>simp[intOf];omega
   ·go_wp2_with fail
    try clear h
    go_ret2
    refine⟨_,Hc,rfl,E5,_,rfl, ?_⟩
    rw[htold.out,show N=k by omega,hrun.out]
    exact hacc
end
section
open Go.RowKit
attribute [local go_sem] j4.drew j4.alloc j4.drewN WB.holds Oper.semAt_some Q9 O1 J7
def ab2 (h:A9) (t:Nat) (acc:Int) (p:List (List Int)):Int:=if(ad4 h p).all (fun x=>decide (x∈[(t:Int)]))then min acc (max 0 ((M3 h p).getD t 0-h.ts.getD t 0))else acc
def af7 (h:A9) (t:Nat) (c:Int):Int:=(ac1 h c).foldl (ab2 h t) 1048576
def aC0 (h:A9) (t:Nat):Int:=(ag6 h).foldl (fun o c=>max o (af7 h t c)) 0
def aF2 (h:A9) (t:Int):Int:=if valid h&&within t 0 ((h.ts.length:Int)-1)&&decide (h.ts.getD t.toNat 0+aC0 h t.toNat≤99)then aC0 h t.toNat else 0
def aW6 (h:A9) (t:Int):Int:=if valid h then(if within t 0 ((h.ts.length:Int)-1)then(if h.ts.getD t.toNat 0+aC0 h t.toNat≤99 then 0 else 3)else 1)else 40
theorem cp4 {h:A9} {t:Nat} {acc:Int} (ha:0≤acc∧acc≤1048576) (p:List (List Int)):0≤ab2 h t acc p∧ab2 h t acc p≤1048576:=by
 unfold ab2;split<;>omega
theorem aO4 {h:A9} {t:Nat}:∀(l:List (List (List Int))) {acc:Int},(0≤acc∧acc≤1048576)→0≤l.foldl (ab2 h t) acc∧l.foldl (ab2 h t) acc≤1048576
 |[],_,ha=>ha
 |p::l,_,ha=>aO4 l (cp4 ha p)
theorem aW7 {h:A9} {t:Nat}:∀(l:List Int) {acc:Int},(0≤acc∧acc≤1048576)→0≤l.foldl (fun o c=>max o (af7 h t c)) acc∧l.foldl (fun o c=>max o (af7 h t c)) acc≤1048576
 |[],_,ha=>ha
 |c::l,_,ha=>aW7 l (by have:=aO4 (h:=h) (t:=t) (ac1 h c) (acc:=1048576) (by omega);show 0≤max _ (af7 h t c)∧max _ (af7 h t c)≤1048576;unfold af7;omega)
theorem dQ0 (t:Nat):ub [(t:Int)]=2 ^ t:=by simp[ub]
theorem dq8 (vm vb vt:Value) (h:A9) (t:Int) (ht:K8 t) (H:j5) (w:World) (hw:j4 H w) (hh:Hou H vm vb vt h):
 Calls Tryz.prog 36 #[U2 vm vb vt h,.int .i64 t] w (I1 w (.tuple #[.int .i64 (aF2 h t),.int .i64 (aW6 h t)])):=by
 have hres:∀b:Bool,b=(valid h&&within t 0 ((h.ts.length:Int)-1))→b=false→aF2 h t=0∧aW6 h t=bG8 (valid h) (within t 0 ((h.ts.length:Int)-1)):=fun b e hb=>by
  subst e
  unfold aF2 aW6 bG8
  rw[hb]
  cases h1:valid h
  ·simp
  ·rw[h1]at hb;simp at hb;rw[hb];simp
 obtain⟨at',ct,rfl,ht1,ht2⟩:=hh.t.form
 refine Calls.aw5 (r:=none) (n:=3) (callsIn_of_wp_marks Tryz.func36 rfl trivial (wpIn_wide.2 ?_) rfl)
 simp only[Tryz.ntmps36,List.size_toArray,ff8,fg1,fh6,fh7,fg9,fg8,fg3,List.append_toArray,ff9,fg2]
 go_upto_region 1 with(refine af8 rfl _ rfl (Ext.refl hw) ?_;intro B w1 H1 hle hx hB hBw;obtain⟨hc0,hc1,hc2,hc3⟩:=R6 hB;clear hB hw;have hw1:=hx.holds)
 obtain⟨hxU,aM7,hBU⟩:=hx.newF #[.int .i64 t] 3
 generalize H1.put w1.heap.size (.cells #[.int .i64 t] 3 (0,0))=H2 at*
 generalize w1.alloc (.cells #[.int .i64 t] 3)=wz at*
 generalize w1.heap.size=TB at*
 replace hc0:=lift aM7 hc0
 replace hc1:=lift aM7 hc1
 replace hc2:=lift aM7 hc2
 replace hc3:=lift aM7 hc3
 have hcT:=fun(w:World) (hw:j4 H2 w)=>D7 hBU hw 0
 simp at hcT
 have hhm:=(hh.mono hle).mono aM7
 have hwz:=hxU.holds
 clear aM7 hBU hx hle hw1
 refine E8 H2 (by kernel_rfl) (by kernel_rfl) hwz (fun hne=> ?_)
 repeat go_big_quiet_step((first|(go_at_call 64;exact Calls.am7 (bs4 _ _ _ _ _ _ _ (WB.holds _) hhm))|(go_at_call 63;exact Calls.am7 (dm8 _ _ _ _ _ _ _ (WB.holds _) hhm))))
 refine wpQuiet_nil ?_
 rintro⟨w2,hw2,hb2⟩
 clear hne
 have hx2:=hxU.step (hb2.mono hxU.below.size) hw2
 cases hb:(valid h&&within t 0 ((h.ts.length:Int)-1))
 ·have hne:(bG8 (valid h) (within t 0 ((h.ts.length:Int)-1)) != 0)=true:=by
   cases h1:valid h
   ·rfl
   ·rw[h1]at hb;simp at hb;rw[hb];rfl
  obtain⟨e1,e2⟩:=hres _ hb.symm rfl
  replace e1:=fe6 e1
  replace e2:=fe6 e2
  go_wp2_with fail
  refine⟨_,results_tmp2 rfl _ _ _, ?_⟩
  rw[e1.out,e2.out]
  exact⟨rfl,hx2.below⟩
 ·simp only[fh9]at hb
  have he:bG8 (valid h) (within t 0 ((h.ts.length:Int)-1))=0:=by rw[hb.1,hb.2];rfl
  have hv:=ad3.1 hb.1
  have htb:=within_iff.1 hb.2
  obtain⟨j,rfl⟩:=Int.eq_ofNat_of_zero_le htb.1
  have hb':=fe6 hb
  clear hb hres
  have hcW:=Cell.new (W:=w2) (t:=3) (base:=w.heap.size) hw2 hx2.below.size rfl (.int .i64 0)
  go_upto_region 5 with fail
  replace hx2:=hx2.alloc (.cells #[.int .i64 0] 3)
  clear hb2 hw2
  generalize w2.alloc (.cells #[.int .i64 0] 3)=wy at*
  generalize w2.heap.size=WX at*
  have hwy:=hx2.holds
  go_wp2_with(first|(go_at_call 65;refine(bk3 _ _ _ _ H2 _ hwy hhm hv.m3).mono ?_;rintro e w3 ⟨lb,H3,rfl,hx3,hit⟩))
  have hw3:=hx3.holds
  have hle3:=hx3.le hwy
  have al2:=hx2.trans hx3
  have bu7:=(hcW.below hx3.below).snap ((hx3.same WX hcW.lt).trans hcW.free)
  clear hcW hx2 hwy hx3
  refine(wpIn_wide (n:=3)).1 (at6 (k:=3) (H:=H3) rfl (enters_of Tryz.func98 (by kernel_rfl) rfl) hw3 hit (fun _ _ _ e=>by rw[show _=_ from e];rfl) (fun _ _ _ _ _ e=>e)
   (J:=fun Hc pre W=>Ext w H W Hc∧Cell Hc W w.heap.size WX 3 (.int .i64 (pre.foldl (fun o c=>max o (af7 h j c)) 0)))
   (Jx:=fun _ _ _ _=>False)
   (J2:=fun Hc pre x args a1 W=>(Ext w H W Hc∧Cell Hc W w.heap.size WX 3 (.int .i64 (pre.foldl (fun o c=>max o (af7 h j c)) 0)))∧a1={tmps:= #[U2 vm vb (.slice at' h.ts.length ct) h,.int .i64 (j:Int),.pointer (some ⟨B,0,none⟩),.pointer (some ⟨TB,0,none⟩),.int .i64 0,.int .i64 0,.int .i64 0,.pointer (some ⟨WX,0,none⟩),.int .i64 x,undef,undef,undef,U2 vm vb (.slice at' h.ts.length ct) h,U2 vm vb (.slice at' h.ts.length ct) h,.int .i64 (j:Int),.bool (within (j:Int) 0 ((h.ts.length:Int)-1)),.int .i64 0,.int .i64 0,.bool false,undef,U2 vm vb (.slice at' h.ts.length ct) h,.func (.func 98) #[] lb,.int .i64 x,undef,undef,undef,undef,undef,undef,undef,undef,undef,undef,undef,undef,undef,undef,undef,undef,undef,undef,undef,undef,undef,undef,undef,undef,undef,undef,undef,undef,undef,undef,undef,undef,undef,undef,undef,undef],defers:=[]})
   ((Ext.abides al2.below.size).and (Cell.abides _)) (fun _ _ _ _ _ _ h _ _=>h) (fun _ _ _=>(((Ext.abides al2.below.size).and (Cell.abides _)).and (Abides.pure _))) ⟨al2,bu7⟩ ?assign ?body ?done ?stop)
  case assign=>
   rintro l Hc pre x W args hl hWc K5 ⟨hxc,hcc⟩ rfl hpre
   gi_wp2
   exact⟨hWc,⟨hxc,hcc⟩,by first|rfl|trivial⟩
  case body=>
   rintro l rc Hc pre x args a1 W hl hrc hWc K5 he hpre ⟨⟨hxc,hcc⟩,rfl⟩
   have hwb:=aW7 (h:=h) (t:=j) pre (acc:=0) (by omega)
   obtain⟨wt,hwt⟩:∃wt,Hid (pre.foldl (fun o c=>max o (af7 h j c)) 0=wt):=⟨_,rfl⟩
   rw[hwt.out]at hwb hcc
   have hhc:=hhm.mono (hle3.trans K5)
   have hd0:=lift (hle3.trans K5) hc0
   have hd1:=lift (hle3.trans K5) hc1
   have hd2:=lift (hle3.trans K5) hc2
   have hd3:=lift (hle3.trans K5) hc3
   have D9:=lift (hle3.trans K5) hcT
   have hxm:=bd2 (hpre.subset (show x∈pre++[x]by simp))
   have hm3:=hv.m3
   have ht4:=hv.t4
   have hxI:K8 x:=by unfold K8;omega
   obtain⟨LB,hLB⟩:∃LB,Hid (W.heap.size=LB):=⟨_,rfl⟩
   have hcL:=Cell.new (W:=W) (t:=3) (base:=W.heap.size) hWc (fh0 _) hLB.out.symm (.int .i64 1048576)
   have hxL:=(Ext.refl hWc).alloc (.cells #[.int .i64 1048576] 3)
   gi_upto_region 8 with fail
   rw[hLB.out]
   generalize W.alloc (.cells #[.int .i64 1048576] 3)=WL at*
   have hwL:=hxL.holds
   gi_wp2_with (gi_at_call 66;refine(Calls.wide (aO2 _ _ _ _ hv x hxI Hc WL hwL hhc)).mono ?_;rintro e w4 ⟨lb2,H4,rfl,hx4,hit2⟩)
   have hw4:=hx4.holds
   have bd9:=hx4.le hwL
   have bk9:=hxL.trans hx4
   have dq9:=(hcL.below hx4.below).snap ((hx4.same LB hcL.lt).trans hcL.free)
   have co9:=(bk9.below.block l (Array.getElem?_eq_some_iff.1 hrc).1).trans hrc
   clear hx4 hcL hxL hwL
   refine bu3 (k:=3) (H:=H4) co9 rfl (enters_of Tryz.func99 (by kernel_rfl) rfl) hw4 hit2 (fun _ _ _ ⟨_,e,_⟩=>by rw[e];rfl) (fun _ _ _ _ hle ⟨v,e,hs⟩=>⟨v,e,hs.mono hle⟩)
    (J:=fun Hd pr V=>Ext W Hc V Hd∧Cell Hd V W.heap.size LB 3 (.int .i64 (pr.foldl (ab2 h j) 1048576)))
    (Jx:=fun _ _ _ _=>False)
    (J2:=fun Hd pr y args a1 V=>(Ext W Hc V Hd∧Cell Hd V W.heap.size LB 3 (.int .i64 (pr.foldl (ab2 h j) 1048576)))∧∃RX vp,Row Hd W.heap.size V 124 RX (M3 h y)∧a1={tmps:= #[U2 vm vb (.slice at' h.ts.length ct) h,.int .i64 (j:Int),.pointer (some ⟨B,0,none⟩),.pointer (some ⟨TB,0,none⟩),.int .i64 0,.int .i64 0,.int .i64 0,.pointer (some ⟨WX,0,none⟩),.int .i64 x,.pointer (some ⟨LB,0,none⟩),undef,.pointer (some ⟨RX,0,none⟩),U2 vm vb (.slice at' h.ts.length ct) h,U2 vm vb (.slice at' h.ts.length ct) h,.int .i64 (j:Int),.bool (within (j:Int) 0 ((h.ts.length:Int)-1)),.int .i64 0,.int .i64 0,.bool false,undef,U2 vm vb (.slice at' h.ts.length ct) h,.func (.func 98) #[] lb,.int .i64 x,U2 vm vb (.slice at' h.ts.length ct) h,.int .i64 x,.func (.func 99) #[] lb2,vp,arr (M3 h y),undef,undef,undef,undef,undef,undef,undef,undef,undef,undef,undef,undef,undef,undef,undef,undef,undef,undef,undef,undef,undef,undef,undef,undef,undef,undef,undef,undef,undef,undef,undef],defers:=[]})
    ((Ext.abides bk9.below.size).and (Cell.abides _)) (fun _ _ _ _ _ _ h _ _=>h) (fun _ _ _=> ?cp0) ⟨bk9,dq9⟩ ?assign2 ?bM5 ?bM6 ?bM7
   case cp0=>exact fun _ _ _ _ _ ⟨h1,RX,vp,hr,e⟩ _ ht=>⟨⟨ht.an1 h1.1 bk9.below.size,h1.2.turn ht⟩,RX,vp,hr.turn ht,e⟩
   case assign2=>
    rintro l2 Hd pr y V args hl2 hVd ay4 ⟨hxd,hcd⟩ ⟨vp,rfl,hsp⟩ hpr
    obtain⟨r0,r1,r2,r3,hr⟩:=bk4 (ah2 h y)
    rw[hr]
    simp only[arr,List.map_cons,List.map_nil]
    gi_wp2
    exact⟨hVd.alloc _,⟨hxd.alloc _,hcd.alloc _⟩,V.heap.size,vp,Row.new (xs:=[r0,r1,r2,r3]) hVd hxd.below.size rfl,by first|rfl|trivial⟩
   case bM5=>
    rintro l2 rc2 Hd pr y args a1 V hl2 dq6 hVd ay4 ⟨vp',rfl,hsp⟩ hpr ⟨⟨hxd,hcd⟩,RX,vp,hrow,rfl⟩
    have hpl:=af1 hv x y (hpr.subset (show y∈pr++[y]by simp))
    have hlw:=aO4 (h:=h) (t:=j) pr (acc:=1048576) (by omega)
    have au0:(pr++[y]).foldl (ab2 h j) 1048576=ab2 h j (pr.foldl (ab2 h j) 1048576) y:=by rw[List.foldl_append];rfl
    obtain⟨lw,bl0⟩:∃lw,Hid (pr.foldl (ab2 h j) 1048576=lw):=⟨_,rfl⟩
    rw[bl0.out]at hlw hcd au0
    have hRL:RX≠LB:=by
     rintro rfl
     have h1:=hcd.at_
     rw[hrow.at_]at h1
     simp at h1
    have hVf:=(hVd.put hrow.at_).put hcd.at_
    have aB9:=(j5.L9 hrow.free (.cells ((M3 h y).map (Value.int .i64)).toArray 124 (0,0))).trans (j5.L9 (H:=Hd.put RX (.cells ((M3 h y).map (Value.int .i64)).toArray 124 (0,0))) (b:=LB) (by rw[j5.F3 _ _ (Ne.symm hRL)];exact hcd.free) (.cells #[.int .i64 lw] 3 (0,0)))
    have hput:((Hd.put RX (.cells ((M3 h y).map (Value.int .i64)).toArray 124 (0,0))).put LB (.cells #[.int .i64 lw] 3 (0,0))) RX=some (.cells ((M3 h y).map (Value.int .i64)).toArray 124 (0,0)):=by rw[j5.F3 _ _ hRL,j5.G7]
    have dz6:=j5.G7 (Hd.put RX (.cells ((M3 h y).map (Value.int .i64)).toArray 124 (0,0))) LB (.cells #[.int .i64 lw] 3 (0,0))
    generalize(Hd.put RX (.cells ((M3 h y).map (Value.int .i64)).toArray 124 (0,0))).put LB (.cells #[.int .i64 lw] 3 (0,0))=Hf at*
    have ai9:=(bd9.trans ay4).trans aB9
    have hhf:=hhc.mono ai9
    have ar4:=fun(z:WB Hf V)=>bt4 vm vb _ h (M3 h y) Hf z.w z.h hhf ht4 (ah2 h y) (aB5 hv hpl)
    rw[aZ7 hv hpl]at ar4
    have hj4:j<4:=by omega
    obtain⟨rj,hrj⟩:=At.mk (xs:=M3 h y) (k:=j) (by rw[ah2];exact hj4)
    have eT8:=aB5 hv hpl rj hrj.mem
    obtain⟨tj,htj⟩:=At.mk (xs:=h.ts) (k:=j) (by omega)
    have et6:=cK7 hv htj
    obtain⟨bt,ot,ct',he',dQ1,cp8⟩:=hhf.t.int htj
    cases he'
    have hcj:∀w,j4 Hf w→w.cell? ⟨RX,j,none⟩=some (.int .i64 rj):=fun w hw=>(D7 hput hw j).trans (by simp[show(M3 h y)[j]? =some rj from hrj])
    have hval:Hid (ab2 h j lw y=if(ad4 h y).all (fun x=>decide (x∈[(j:Int)]))then min lw (max 0 (rj-tj))else lw):=by
     show _=_
     unfold ab2;rw[hrj.getD,htj.getD]
    obtain⟨r0,r1,r2,r3,hr⟩:=bk4 (ah2 h y)
    rw[hr]at ar4 hput ⊢
    simp only[arr,List.map_cons,List.map_nil]at ar4 ⊢
    have g0:=fun(w:World) (hw:j4 Hf w)=>D7 hput hw 0
    have g1:=fun(w:World) (hw:j4 Hf w)=>D7 hput hw 1
    have g2:=fun(w:World) (hw:j4 Hf w)=>D7 hput hw 2
    have g3:=fun(w:World) (hw:j4 Hf w)=>D7 hput hw 3
    have gL:=fun(w:World) (hw:j4 Hf w)=>D7 dz6 hw 0
    have gF:∀w,j4 Hf w→w.frozen? ⟨LB,0,none⟩=false:=fun w hw=>by simp[World.frozen?,hw.at_ _ _ dz6]
    simp at g0 g1 g2 g3 gL
    have e0:=lift ai9 hd0
    have e1:=lift ai9 hd1
    have e2:=lift ai9 hd2
    have e3:=lift ai9 hd3
    have eT:=lift ai9 D9
    have hz:=bE5 (aT5 hv y) (S:=[(j:Int)]) (fun x hx=>by rw[List.mem_singleton.1 hx];omega)
    rw[dQ0,Int.natCast_pow,show((2:Nat):Int)=2 from rfl]at hz
    have hpw:=bZ7 (b:=j) (by omega)
    clear hr hd0 hd1 hd2 hd3 hc0 hc1 hc2 hc3 D9 hcT hrj hrow htj
    obtain⟨lt,hlt⟩:∃lt,Hid (ad4 h y=lt):=⟨_,rfl⟩
    rw[hlt.out]at hz ar4 hval
    have hm0:(0:Int)≤(j:Int):=by omega
    have hm4:(j:Int)<4:=by omega
    cases hb:lt.all fun t=>decide (t∈[(j:Int)])
    all_goals
     rw[hb]at hz hval
     gi_wp2
     have hne:Nonempty (WB Hf V):=⟨⟨V,hVf,Below.refl _ _⟩⟩
     refine as5 (C:=fun w'=>∃x:WB Hf V,w'=x.w) (by kernel_rfl) (by kernel_rfl) (by kernel_rfl) ⟨⟨V.drew,hVf.drew,(Below.refl _ _).drew⟩,rfl⟩ ?_
     repeat go_big_quiet_step((go_at_call 67;exact Calls.am7 (ar4 _)))
     refine wpQuiet_nil ?_
     clear hne
     rintro V2 ⟨⟨_,hV2,hb2⟩,rfl⟩
     gi_wp2
    ·exact⟨hV2.mono aB9,hxd.step (hb2.mono hxd.below.size) (hV2.mono aB9),by rw[au0,hval.out];exact hcd.below hb2⟩
    ·have hne:Nonempty (WB Hf V2):=⟨⟨V2,hV2,Below.refl _ _⟩⟩
     refine X0 (C:=fun w'=>∃x:WB Hf V2,w'=x.w) 12 (by kernel_rfl) (by kernel_rfl) (by kernel_rfl) ⟨⟨V2.drew,hV2.drew,(Below.refl _ _).drew⟩,rfl⟩ ?_
     simp only[List.take_succ_cons,List.take_zero,ff5,ff6]
     repeat go_big_quiet_step(fail)
     refine wpQuiet_nil ?_
     clear hne
     rintro V3 ⟨⟨_,hV3,hb3⟩,rfl⟩
     gi_wp2
     all_goals
      have dQ2:=hb2.trans (hb3.mono hb2.size)
      have dr0:=hcd.below dQ2
      refine⟨(hV3.mono aB9).setCell hcd.free _,(hxd.step (dQ2.mono hxd.below.size) (hV3.mono aB9)).setCell hcd.base hcd.free _, ?_⟩
      rw[au0,hval.out,if_pos trivial]
      first
       |(rw[show min lw (max 0 (rj-tj))=lw by omega];exact dr0.set _)
       |(rw[show min lw (max 0 (rj-tj))=rj-tj by omega];exact dr0.set _)
       |(rw[show min lw (max 0 (rj-tj))=0 by omega];exact dr0.set _)
   case bM6=>
    rintro Hd V hVd ay4 ⟨hxd,hcd⟩
    have hlw:=aO4 (h:=h) (t:=j) (ac1 h x) (acc:=1048576) (by omega)
    have au0:(pre++[x]).foldl (fun o c=>max o (af7 h j c)) 0=max wt (af7 h j x):=by rw[List.foldl_append,hwt.out];rfl
    obtain⟨lw,bl0⟩:∃lw,Hid (af7 h j x=lw):=⟨_,rfl⟩
    rw[show(ac1 h x).foldl (ab2 h j) 1048576=lw from bl0.out]at hlw hcd
    rw[bl0.out]at au0
    have hVc:=hVd.mono (bd9.trans ay4)
    have aH4:=hcc.below hxd.below
    have q1:=hcd.cell
    have q2:=aH4.cell
    have q3:=aH4.fz
    gi_wp2
    all_goals
     refine⟨hVc.setCell hcc.free _,(hxc.step (hxd.below.mono hxc.below.size) hVc).setCell hcc.base hcc.free _, ?_⟩
     first
      |(rw[au0,show max wt lw=lw by omega];exact aH4.set _)
      |(rw[au0,show max wt lw=wt by omega];exact aH4.set _)
   case bM7=>exact fun _ _ _ _ _ _ _ h=>h.elim
  case done=>
   rintro D Hc W hD hWc K5 hDc ⟨hxc,hcc⟩
   have hDW:=hWc.at_ _ _ hDc
   have hDlt:=(Array.getElem?_eq_some_iff.1 hDW).1
   have bM8:=al2.below.size
   have hwb:=aW7 (h:=h) (t:=j) (ag6 h) (acc:=0) (by omega)
   obtain⟨wt,hwt⟩:∃wt,Hid (aC0 h j=wt):=⟨_,rfl⟩
   rw[show(ag6 h).foldl (fun o c=>max o (af7 h j c)) 0=wt from hwt.out]at hwb hcc
   have q1:=hcc.cell
   have bV3:=hle3.trans K5
   have e0:=lift bV3 hc0
   have e1:=lift bV3 hc1
   have e2:=lift bV3 hc2
   have e3:=lift bV3 hc3
   have eT:=lift bV3 hcT
   obtain⟨tj,htj⟩:=At.mk (xs:=h.ts) (k:=j) (by omega)
   have et6:=cK7 hv htj
   obtain⟨bt,ot,ct',he',dQ1,cp8⟩:=(hhm.mono bV3).t.int htj
   cases he'
   have hTV:Hid (aF2 h (j:Int)=if tj+wt≤99 then wt else 0):=by
    show _=_
    unfold aF2;rw[hb'.out.1,hb'.out.2,fh8,htj.getD,hwt.out]
    by_cases e:tj+wt≤99<;>simp[e]
   have hTE:Hid (aW6 h (j:Int)=if tj+wt≤99 then 0 else 3):=by
    show _=_
    unfold aW6;rw[hb'.out.1,hb'.out.2,fh8,htj.getD,hwt.out];rfl
   have ef6:=j5.G7 Hc WX (.cells #[.int .i64 wt] 3 (0,0))
   have ac2:=j5.L9 hcc.free (.cells #[.int .i64 wt] 3 (0,0))
   have hWf:=hWc.put hcc.at_
   generalize Hc.put WX (.cells #[.int .i64 wt] 3 (0,0))=Hg at*
   have k0:=lift ac2 e0
   have k1:=lift ac2 e1
   have k2:=lift ac2 e2
   have k3:=lift ac2 e3
   have kT:=lift ac2 eT
   have kj:=lift ac2 cp8
   have gW:=fun(w:World) (hw:j4 Hg w)=>D7 ef6 hw 0
   simp at gW
   clear e0 e1 e2 e3 eT cp8 q1 hc0 hc1 hc2 hc3 hcT htj
   have hm0:(0:Int)≤(j:Int):=by omega
   have hm1:(j:Int)<(h.ts.length:Int):=by omega
   cases hg:decide (99<tj+wt)
   all_goals
    go_wp2_with fail
    refine E8 Hg (by kernel_rfl) (by kernel_rfl) hWf (fun hne=> ?_)
    repeat go_big_quiet_step((first|fail))
    refine wpQuiet_nil ?_
    rintro⟨w2,hw2,hb2⟩
    clear hne
    go_wp2_with fail
    have hB:=hxc.below.trans (hb2.mono hxc.below.size)
    have hD2:w2.heap[D]? =some (.deferred (some [])):=hw2.at_ _ _ (ac2 _ _ hDc)
    refine ak6 hD2 (results_tmp2 rfl _ _ _) ⟨?_,ao7 hB (by omega) (Array.getElem?_eq_some_iff.1 hD2).1⟩
    rw[hTV.out,hTE.out]
   ·rw[if_pos (by have:=of_decide_eq_false hg;omega),if_pos (by have:=of_decide_eq_false hg;omega)];rfl
   ·rw[if_neg (by have:=of_decide_eq_true hg;omega),if_neg (by have:=of_decide_eq_true hg;omega)];rfl
  case stop=>exact fun _ _ _ _ _ _ _ _ _ _ h=>h.elim
end
section
open Go.RowKit
attribute [local go_sem] j4.drew j4.alloc j4.drewN WB.holds Oper.semAt_some Q9 O1 J7
def au1 (h:A9) (r:List Int) (l:Int) (b:ar8):Int:=min l (h.ts.getD b.t.toNat 0-r.getD b.t.toNat 0)
def ad2 (h:A9) (p:List (List Int)):Int:=h.bs.foldl (au1 h (M3 h p)) 99
def ac4 (h:A9) (c:Int):Int:=(ac1 h c).foldl (fun m p=>max m (ad2 h p)) (-1)
def ap7 (h:A9):Int:=(ag6 h).foldl (fun o c=>min o (ac4 h c)) 99
def aA1 (h:A9):Int:=if valid h&&decide (0≤ap7 h)then ap7 h else 0
def aM8 (h:A9):Int:=if valid h then(if 0≤ap7 h then 0 else 3)else 40
theorem aQ5 {h:A9} (hv:Valid h) {r:List Int} (hr:∀x∈r,0≤x∧x≤1048576):∀(l:List ar8) {a:Int},(-1048577≤a∧a≤99)→-1048577≤l.foldl (au1 h r) a∧l.foldl (au1 h r) a≤99
 |[],_,ha=>ha
 |b::l,a,ha=>aQ5 hv hr l (by
   have h1:=aJ7 hv b.t.toNat
   have h2:=aM4 (lo:=0) (hi:=1048576) (by omega) hr b.t.toNat
   unfold au1;omega)
theorem cP5 {h:A9} (hv:Valid h) {p:List (List Int)} (hp:aa8 h p=true): -1048577≤ad2 h p∧ad2 h p≤99:=aQ5 hv (aB5 hv hp) _ (by omega)
theorem aK4 {h:A9} (hv:Valid h):∀(l:List (List (List Int))) {a:Int},(∀p∈l,aa8 h p=true)→(-1≤a∧a≤99)→-1≤l.foldl (fun m p=>max m (ad2 h p)) a∧l.foldl (fun m p=>max m (ad2 h p)) a≤99
 |[],_,_,ha=>ha
 |p::l,a,hl,ha=>aK4 hv l (fun q hq=>hl q (by simp[hq])) (by have:=cP5 hv (hl p (by simp));show-1≤max a (ad2 h p)∧max a (ad2 h p)≤99;omega)
theorem aG5 {h:A9} (hv:Valid h):∀(l:List Int) {a:Int},(-1≤a∧a≤99)→-1≤l.foldl (fun o c=>min o (ac4 h c)) a∧l.foldl (fun o c=>min o (ac4 h c)) a≤99
 |[],_,ha=>ha
 |c::l,a,ha=>aG5 hv l (by have:=aK4 hv (ac1 h c) (a:= -1) (af1 hv c) (by omega);show-1≤min a (ac4 h c)∧min a (ac4 h c)≤99;unfold ac4;omega)
theorem de0 (vm vb vt:Value) (h:A9) (H:j5) (w:World) (hw:j4 H w) (hh:Hou H vm vb vt h):
 Calls Tryz.prog 37 #[U2 vm vb vt h] w (I1 w (.tuple #[.int .i64 (aA1 h),.int .i64 (aM8 h)])):=by
 obtain⟨at',ct,rfl,ht1,ht2⟩:=hh.t.form
 obtain⟨ab,cb,rfl,hb1,hb2⟩:=hh.b.form
 refine Calls.aw5 (r:=none) (n:=3) (callsIn_of_wp_marks Tryz.func37 rfl trivial (wpIn_wide.2 ?_) rfl)
 simp only[Tryz.ntmps37,List.size_toArray,ff8,fg1,fh6,fh7,fg9,fg8,fg3,List.append_toArray,ff9,fg2]
 go_upto_region 1 with(refine af8 rfl _ rfl (Ext.refl hw) ?_;intro B w1 H1 hle hx hB hBw;obtain⟨hc0,hc1,hc2,hc3⟩:=R6 hB;clear hB hw;have hw1:=hx.holds)
 have hhm:=hh.mono hle
 clear hle
 cases hb:valid h
 ·have he:aq2 (valid h)=40:=by rw[hb];rfl
  have e1:Hid (aA1 h=0):=by show _=_;unfold aA1;rw[hb];rfl
  have e2:Hid (aM8 h=40):=by show _=_;unfold aM8;rw[hb];rfl
  go_wp2_with(first|(go_at_call 56;refine(aj7 _ _ _ _ _ _ hw1 hhm).mono ?_;rintro e w' ⟨rfl,hb2⟩))
  refine⟨_,results_tmp2 rfl _ _ _, ?_⟩
  rw[e1.out,e2.out]
  exact⟨rfl,hx.below.trans (hb2.mono hx.below.size)⟩
 ·have he:aq2 (valid h)=0:=by rw[hb];rfl
  have hv:=ad3.1 hb
  replace hb:=fe6 hb
  go_upto_region 4 with(first|(go_at_call 56;refine(aj7 _ _ _ _ _ _ hw1 hhm).mono ?_;rintro e w' ⟨rfl,hb2⟩;have hw2:=hw1.below hb2))
  obtain⟨w2,rfl⟩:∃w2,w2=w':=⟨_,rfl⟩
  have hx2:=hx.step (hb2.mono hx.below.size) hw2
  have hcW:=Cell.new (W:=w2) (t:=3) (base:=w.heap.size) hw2 hx2.below.size rfl (.int .i64 99)
  go_upto_region 5 with fail
  replace hx2:=hx2.alloc (.cells #[.int .i64 99] 3)
  clear hb2 hw2 hx hw1
  generalize w2.alloc (.cells #[.int .i64 99] 3)=wy at*
  generalize w2.heap.size=SX at*
  have hwy:=hx2.holds
  go_wp2_with(first|(go_at_call 65;refine(bk3 _ _ _ _ H1 _ hwy hhm hv.m3).mono ?_;rintro e w3 ⟨lb,H3,rfl,hx3,hit⟩))
  have hw3:=hx3.holds
  have hle3:=hx3.le hwy
  have al2:=hx2.trans hx3
  have bu7:=(hcW.below hx3.below).snap ((hx3.same SX hcW.lt).trans hcW.free)
  clear hcW hx2 hwy hx3
  refine(wpIn_wide (n:=3)).1 (at6 (k:=3) (H:=H3) rfl (enters_of Tryz.func98 (by kernel_rfl) rfl) hw3 hit (fun _ _ _ e=>by rw[show _=_ from e];rfl) (fun _ _ _ _ _ e=>e)
   (J:=fun Hc pre W=>Ext w H W Hc∧Cell Hc W w.heap.size SX 3 (.int .i64 (pre.foldl (fun o c=>min o (ac4 h c)) 99)))
   (Jx:=fun _ _ _ _=>False)
   (J2:=fun Hc pre x args a1 W=>(Ext w H W Hc∧Cell Hc W w.heap.size SX 3 (.int .i64 (pre.foldl (fun o c=>min o (ac4 h c)) 99)))∧a1={tmps:= #[U2 vm (.slice ab h.bs.length cb) (.slice at' h.ts.length ct) h,.pointer (some ⟨B,0,none⟩),.int .i64 0,.int .i64 0,.int .i64 0,.pointer (some ⟨SX,0,none⟩),.int .i64 x,undef,undef,undef,undef,undef,undef,U2 vm (.slice ab h.bs.length cb) (.slice at' h.ts.length ct) h,.int .i64 0,.int .i64 0,.bool false,undef,U2 vm (.slice ab h.bs.length cb) (.slice at' h.ts.length ct) h,.func (.func 98) #[] lb,.int .i64 x,undef,undef,undef,undef,undef,undef,undef,undef,undef,undef,undef,undef,undef,undef,undef,undef,undef,undef,undef,undef,undef,undef,undef,undef,undef,undef,undef,undef,undef,undef,undef,undef,undef,undef,undef],defers:=[]})
   ((Ext.abides al2.below.size).and (Cell.abides _)) (fun _ _ _ _ _ _ h _ _=>h) (fun _ _ _=>(((Ext.abides al2.below.size).and (Cell.abides _)).and (Abides.pure _))) ⟨al2,bu7⟩ ?assign ?body ?done ?stop)
  case assign=>
   rintro l Hc pre x W args hl hWc K5 ⟨hxc,hcc⟩ rfl hpre
   gi_wp2
   exact⟨hWc,⟨hxc,hcc⟩,by first|rfl|trivial⟩
  case body=>
   rintro l rc Hc pre x args a1 W hl hrc hWc K5 he hpre ⟨⟨hxc,hcc⟩,rfl⟩
   have hwb:=aG5 hv pre (a:=99) (by omega)
   obtain⟨wt,hwt⟩:∃wt,Hid (pre.foldl (fun o c=>min o (ac4 h c)) 99=wt):=⟨_,rfl⟩
   rw[hwt.out]at hwb hcc
   have hhc:=hhm.mono (hle3.trans K5)
   have hd0:=lift (hle3.trans K5) hc0
   have hd1:=lift (hle3.trans K5) hc1
   have hd2:=lift (hle3.trans K5) hc2
   have hd3:=lift (hle3.trans K5) hc3
   have hxm:=bd2 (hpre.subset (show x∈pre++[x]by simp))
   have hm3:=hv.m3
   have ht4:=hv.t4
   have hxI:K8 x:=by unfold K8;omega
   obtain⟨LB,hLB⟩:∃LB,Hid (W.heap.size=LB):=⟨_,rfl⟩
   have hcL:=Cell.new (W:=W) (t:=3) (base:=W.heap.size) hWc (fh0 _) hLB.out.symm (.int .i64 (-1))
   have hxL:=(Ext.refl hWc).alloc (.cells #[.int .i64 (-1)] 3)
   gi_upto_region 8 with fail
   rw[hLB.out]
   generalize W.alloc (.cells #[.int .i64 (-1)] 3)=WL at*
   have hwL:=hxL.holds
   gi_wp2_with (gi_at_call 66;refine(Calls.wide (aO2 _ _ _ _ hv x hxI Hc WL hwL hhc)).mono ?_;rintro e w4 ⟨lb2,H4,rfl,hx4,hit2⟩)
   have hw4:=hx4.holds
   have bd9:=hx4.le hwL
   have bk9:=hxL.trans hx4
   have dq9:=(hcL.below hx4.below).snap ((hx4.same LB hcL.lt).trans hcL.free)
   have co9:=(bk9.below.block l (Array.getElem?_eq_some_iff.1 hrc).1).trans hrc
   clear hx4 hcL hxL hwL
   refine bu3 (k:=3) (H:=H4) co9 rfl (enters_of Tryz.func99 (by kernel_rfl) rfl) hw4 hit2 (fun _ _ _ ⟨_,e,_⟩=>by rw[e];rfl) (fun _ _ _ _ hle ⟨v,e,hs⟩=>⟨v,e,hs.mono hle⟩)
    (J:=fun Hd pr V=>Ext W Hc V Hd∧Cell Hd V W.heap.size LB 3 (.int .i64 (pr.foldl (fun m p=>max m (ad2 h p)) (-1))))
    (Jx:=fun _ _ _ _=>False)
    (J2:=fun Hd pr y args a1 V=>(Ext W Hc V Hd∧Cell Hd V W.heap.size LB 3 (.int .i64 (pr.foldl (fun m p=>max m (ad2 h p)) (-1))))∧∃RX vp,Row Hd W.heap.size V 124 RX (M3 h y)∧a1={tmps:= #[U2 vm (.slice ab h.bs.length cb) (.slice at' h.ts.length ct) h,.pointer (some ⟨B,0,none⟩),.int .i64 0,.int .i64 0,.int .i64 0,.pointer (some ⟨SX,0,none⟩),.int .i64 x,.pointer (some ⟨LB,0,none⟩),undef,.pointer (some ⟨RX,0,none⟩),undef,undef,undef,U2 vm (.slice ab h.bs.length cb) (.slice at' h.ts.length ct) h,.int .i64 0,.int .i64 0,.bool false,undef,U2 vm (.slice ab h.bs.length cb) (.slice at' h.ts.length ct) h,.func (.func 98) #[] lb,.int .i64 x,U2 vm (.slice ab h.bs.length cb) (.slice at' h.ts.length ct) h,.int .i64 x,.func (.func 99) #[] lb2,vp,arr (M3 h y),undef,undef,undef,undef,undef,undef,undef,undef,undef,undef,undef,undef,undef,undef,undef,undef,undef,undef,undef,undef,undef,undef,undef,undef,undef,undef,undef,undef,undef,undef],defers:=[]})
    ((Ext.abides bk9.below.size).and (Cell.abides _)) (fun _ _ _ _ _ _ h _ _=>h) (fun _ _ _=> ?cp0) ⟨bk9,dq9⟩ ?assign2 ?bM5 ?bM6 ?bM7
   case cp0=>exact fun _ _ _ _ _ ⟨h1,RX,vp,hr,e⟩ _ ht=>⟨⟨ht.an1 h1.1 bk9.below.size,h1.2.turn ht⟩,RX,vp,hr.turn ht,e⟩
   case assign2=>
    rintro l2 Hd pr y V args hl2 hVd ay4 ⟨hxd,hcd⟩ ⟨vp,rfl,hsp⟩ hpr
    obtain⟨r0,r1,r2,r3,hr⟩:=bk4 (ah2 h y)
    rw[hr]
    simp only[arr,List.map_cons,List.map_nil]
    gi_wp2
    exact⟨hVd.alloc _,⟨hxd.alloc _,hcd.alloc _⟩,V.heap.size,vp,Row.new (xs:=[r0,r1,r2,r3]) hVd hxd.below.size rfl,by first|rfl|trivial⟩
   case bM5=>
    rintro l2 rc2 Hd pr y args a1 V hl2 dq6 hVd ay4 ⟨vp',rfl,hsp⟩ hpr ⟨⟨hxd,hcd⟩,RX,vp,hrow,rfl⟩
    have hpl:=af1 hv x y (hpr.subset (show y∈pr++[y]by simp))
    have hlw:=aK4 hv pr (a:= -1) (fun q hq=>af1 hv x q (hpr.subset (by simp[hq]))) (by omega)
    have au0:(pr++[y]).foldl (fun m p=>max m (ad2 h p)) (-1)=max (pr.foldl (fun m p=>max m (ad2 h p)) (-1)) (ad2 h y):=by rw[List.foldl_append];rfl
    obtain⟨lw,bl0⟩:∃lw,Hid (pr.foldl (fun m p=>max m (ad2 h p)) (-1)=lw):=⟨_,rfl⟩
    rw[bl0.out]at hlw hcd au0
    replace au0:=fe6 au0
    have hVf:=hVd.put hrow.at_
    have aB9:=j5.L9 hrow.free (.cells ((M3 h y).map (Value.int .i64)).toArray 124 (0,0))
    have hput:=j5.G7 Hd RX (.cells ((M3 h y).map (Value.int .i64)).toArray 124 (0,0))
    have hRL:RX≠LB:=by
     rintro rfl
     have h1:=hcd.at_
     rw[hrow.at_]at h1
     simp at h1
    have hcf:Cell (Hd.put RX (.cells ((M3 h y).map (Value.int .i64)).toArray 124 (0,0))) V W.heap.size LB 3 (.int .i64 lw):=hcd.snap (by rw[j5.F3 _ _ (Ne.symm hRL)];exact hcd.free)
    have hrb:=aB5 hv hpl
    have hrl:=ah2 h y
    have dQ5:Hid (ad2 h y=h.bs.foldl (au1 h (M3 h y)) 99):=rfl
    generalize Hd.put RX (.cells ((M3 h y).map (Value.int .i64)).toArray 124 (0,0))=Hf at*
    obtain⟨rs,hrs⟩:∃rs,Hid (rs=M3 h y):=⟨_,rfl⟩
    rw[←hrs.out]at hrb hrl dQ5 hput ⊢
    have ai9:=(bd9.trans ay4).trans aB9
    have hhf:=hhc.mono ai9
    have e1:=lift ai9 hd1
    have e2:=lift ai9 hd2
    have hcr:=fun(w:World) (hw:j4 Hf w) (i:Nat)=>D7 hput hw i
    replace hcr:=fe6 hcr
    have hb5:=hv.b5
    clear hd0 hd1 hd2 hd3 hc0 hc1 hc2 hc3 hrow hput
    gi_wp2
    gi_loopw [10,12,29] (fun le _ i wr=>∃(k:Nat) (lv:Int),k≤h.bs.length∧i= .int .i64 k∧le= .int .i64 lv∧Hid (lv=(h.bs.take k).foldl (au1 h rs) 99)∧Ext V Hf wr Hf) (fun _ _ i _=>h.bs.length-(intOf i).toNat)
    case atStart=>exact⟨0,99,fh3 _,rfl,rfl,rfl,Ext.refl hVf⟩
    case round=>
     obtain⟨k,lv,hk,rfl,rfl,hlv,E5⟩:=hrel
     have hwr:=E5.holds
     have et7:=aQ5 hv hrb (h.bs.take k) (a:=99) (by omega)
     rw[←hlv.out]at et7
     by_cases hlk:k<h.bs.length
     ·obtain⟨z,hzk⟩:=At.mk hlk
      obtain⟨bb,ob',cb',hez,⟨hy1,hy2,hy3⟩,hct,dM8,hce⟩:=hhf.b.X9 hzk
      cases hez
      have hzt:=ch1 hv hlk
      rw[hzk.X9]at hzt
      obtain⟨q,hzq⟩:=Int.eq_ofNat_of_zero_le hzt.1
      replace hzt:(q:Int)<h.ts.length:=by rw[←hzq];exact hzt.2
      obtain⟨tq,htq⟩:=At.mk (xs:=h.ts) (k:=q) (by omega)
      have eT9:=cK7 hv htq
      obtain⟨bt,ot,ct',het,dQ1,cp8⟩:=hhf.t.int htq
      cases het
      obtain⟨rq,hrq⟩:=At.mk (xs:=rs) (k:=q) (by omega)
      have eU0:=hrb rq hrq.mem
      have hcq:∀w,j4 Hf w→w.cell? ⟨RX,q,none⟩=some (.int .i64 rq):=fun w hw=>(hcr.out w hw q).trans (by simp[show rs[q]? =some rq from hrq])
      have hstep:Hid ((h.bs.take (k+1)).foldl (au1 h rs) 99=min lv (tq-rq)):=by
       show _=_
       rw[hzk.take,List.foldl_append,←hlv.out]
       show au1 h rs lv z=_
       unfold au1;rw[hzq,fh8,htq.getD,hrq.getD]
      replace hzq:=fe6 hzq
      gi_upto_region 14 with fail
      have hn0:Hf wr.heap.size=none:=hwr.D6 (fh0 _)
      have hwX:=(hwr.alloc (.cells #[.int .i64 z.t,.int .i64 z.h,.int .i64 z.e] 127)).put (heap_alloc_new wr _)
      have aM9:=j5.L9 hn0 (.cells #[.int .i64 z.t,.int .i64 z.h,.int .i64 z.e] 127 (0,0))
      have hpX:=j5.G7 Hf wr.heap.size (.cells #[.int .i64 z.t,.int .i64 z.h,.int .i64 z.e] 127 (0,0))
      have hxX:=E5.alloc (.cells #[.int .i64 z.t,.int .i64 z.h,.int .i64 z.e] 127)
      generalize Hf.put wr.heap.size (.cells #[.int .i64 z.t,.int .i64 z.h,.int .i64 z.e] 127 (0,0))=Hx at*
      generalize wr.alloc (.cells #[.int .i64 z.t,.int .i64 z.h,.int .i64 z.e] 127)=wx at*
      generalize wr.heap.size=cx at*
      have x0:=fun(w:World) (hw:j4 Hx w)=>D7 hpX hw 0
      simp at x0
      rw[hzq.out]at x0
      have x2:=lift aM9 e2
      have xj:=lift aM9 cp8
      have xq:=lift aM9 hcq
      have hm0:(0:Int)≤(q:Int):=by omega
      have hm1:(q:Int)<4:=by omega
      have hm2:(q:Int)<(h.ts.length:Int):=by omega
      have hne:Nonempty (WB Hx wx):=⟨⟨wx,hwX,Below.refl _ _⟩⟩
      refine as5 (C:=fun w'=>∃x:WB Hx wx,w'=x.w) (by kernel_rfl) (by kernel_rfl) (by kernel_rfl) ⟨⟨wx.drew,hwX.drew,(Below.refl _ _).drew⟩,rfl⟩ ?_
      repeat go_big_quiet_step(fail)
      refine wpQuiet_nil ?_
      clear hne
      rintro V3 ⟨⟨_,hV3,hb3⟩,rfl⟩
      have et8:Ext V Hf V3 Hf:=hxX.step (hb3.mono hxX.below.size) (hV3.mono aM9)
      gi_wp2
      all_goals go_roundw
      case measure=>simp[intOf];omega
      case rel=>exact⟨k+1,_,by omega,rfl,rfl,(by show _=_;rw[hstep.out];split<;>omega),et8⟩
     ·have hcw:=hcf.below E5.below
      have q1:=hcw.cell
      have q3:=hcw.fz
      have hky:Hid (ad2 h y=lv):=by
       show _=_
       rw[dQ5.out,hlv.out,fg7 (by omega)]
      rw[hky.out]at au0
      have hVw:=E5.holds.mono aB9
      gi_wp2
      all_goals
       refine⟨hVw.setCell hcd.free _,⟨(hxd.step (E5.below.mono hxd.below.size) hVw).setCell hcd.base hcd.free _, ?_⟩⟩
       refine Eq.mpr (congrArg (fun t=>Cell _ _ _ _ _ (.int .i64 t)) au0.out) ?_
      ·rw[show max lw lv=lv by omega];exact(hcd.below E5.below).set _
      ·rw[show max lw lv=lw by omega];exact(hcd.below E5.below).set _
   case bM6=>
    rintro Hd V hVd ay4 ⟨hxd,hcd⟩
    have hlw:=aK4 hv (ac1 h x) (a:= -1) (af1 hv x) (by omega)
    have au0:(pre++[x]).foldl (fun o c=>min o (ac4 h c)) 99=min wt (ac4 h x):=by rw[List.foldl_append,hwt.out];rfl
    obtain⟨lw,bl0⟩:∃lw,Hid (ac4 h x=lw):=⟨_,rfl⟩
    rw[show(ac1 h x).foldl (fun m p=>max m (ad2 h p)) (-1)=lw from bl0.out]at hlw hcd
    rw[bl0.out]at au0
    have hVc:=hVd.mono (bd9.trans ay4)
    have aH4:=hcc.below hxd.below
    have q1:=hcd.cell
    have q2:=aH4.cell
    have q3:=aH4.fz
    gi_wp2
    all_goals
     refine⟨hVc.setCell hcc.free _,(hxc.step (hxd.below.mono hxc.below.size) hVc).setCell hcc.base hcc.free _, ?_⟩
     first
      |(rw[au0,show min wt lw=lw by omega];exact aH4.set _)
      |(rw[au0,show min wt lw=wt by omega];exact aH4.set _)
   case bM7=>exact fun _ _ _ _ _ _ _ h=>h.elim
  case done=>
   rintro D Hc W hD hWc K5 hDc ⟨hxc,hcc⟩
   have hDW:=hWc.at_ _ _ hDc
   have hDlt:=(Array.getElem?_eq_some_iff.1 hDW).1
   have bM8:=al2.below.size
   have hwb:=aG5 hv (ag6 h) (a:=99) (by omega)
   obtain⟨wt,hwt⟩:∃wt,Hid (ap7 h=wt):=⟨_,rfl⟩
   rw[show(ag6 h).foldl (fun o c=>min o (ac4 h c)) 99=wt from hwt.out]at hwb hcc
   have q1:=hcc.cell
   have hTV:Hid (aA1 h=if 0≤wt then wt else 0):=by
    show _=_
    unfold aA1;rw[hb.out,hwt.out]
    by_cases e:0≤wt<;>simp[e]
   have hTE:Hid (aM8 h=if 0≤wt then 0 else 3):=by
    show _=_
    unfold aM8;rw[hb.out,hwt.out];rfl
   cases hg:decide (wt<0)
   all_goals
    go_wp2_with fail
    refine ak6 hDW (results_tmp2 rfl _ _ _) ⟨?_,ao7 hxc.below (by omega) hDlt⟩
    rw[hTV.out,hTE.out]
   ·rw[if_pos (by have:=of_decide_eq_false hg;omega),if_pos (by have:=of_decide_eq_false hg;omega)];rfl
   ·rw[if_neg (by have:=of_decide_eq_true hg;omega),if_neg (by have:=of_decide_eq_true hg;omega)];rfl
  case stop=>exact fun _ _ _ _ _ _ _ _ _ _ h=>h.elim
end
end Go.Proofs.YtbliehinagkldaaGreatDoor
