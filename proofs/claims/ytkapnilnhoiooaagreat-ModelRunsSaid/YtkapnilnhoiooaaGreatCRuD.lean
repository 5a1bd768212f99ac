/-
  BOOKS: a record is taken out of a list of one's own.
-/
import Derived.Test.YtkapnilnhoiooaaGreatCRuC
set_option linter.unusedVariables false
set_option linter.unusedSimpArgs false
set_option maxRecDepth 100000
namespace Go.Am
open Go.Proofs
section
variable {P:Program} {h:AH} {st elem:TypeId} {b off n c:Nat}
theorem zxC (hu:P.underlying st=some (.slice elem)) (hi:(P.info? elem).isSome=true) (hc:c < zar) {lo hh m:Nat} (h1:lo≤hh) (h2:hh≤m) (h3:m≤c):
 zaB P h st (.slice (some ⟨b,off,none⟩) n c) (some (.int .i64 (lo:Int))) (some (.int .i64 (hh:Int))) (some (.int .i64 (m:Int)))=some (.slice (some ⟨b,if m=lo then off else off+lo * P.cellsOf elem,none⟩) (hh - lo) (m - lo)):=by
 unfold zaB zbM
 rw[hu]
 simp only[hi,if_true,zcM,if_pos h3,if_pos h2,if_pos h1]
 rw[if_neg (by omega),if_pos hc]
theorem zwZ (hu:P.underlying st=some (.slice elem)) (hi:(P.info? elem).isSome=true) (hc:c < zar) {hh:Nat} (h2:hh≤c):
 zaB P h st (.slice (some ⟨b,off,none⟩) n c) none (some (.int .i64 (hh:Int))) none=some (.slice (some ⟨b,off,none⟩) hh c):=by
 unfold zaB zbM
 rw[hu]
 simp only[hi,if_true,zcM,if_pos h2]
 rw[if_neg (by omega),if_pos hc]
 simp
theorem zw0 (hu:P.underlying st=some (.slice elem)) (hi:(P.info? elem).isSome=true) (hc:c < zar) {lo:Nat} (h1:lo≤n) (h2:n≤c):
 zaB P h st (.slice (some ⟨b,off,none⟩) n c) (some (.int .i64 (lo:Int))) none none=some (.slice (some ⟨b,if c=lo then off else off+lo * P.cellsOf elem,none⟩) (n - lo) (c - lo)):=by
 unfold zaB zbM
 rw[hu]
 simp only[hi,if_true,zcM,if_pos h1]
 rw[if_neg (by omega),if_pos hc]
theorem zw1 (hu:P.underlying st=some (.slice elem)) (hi:(P.info? elem).isSome=true) (hc:c < zar) {lo hh:Nat} (h1:lo≤hh) (h2:hh≤c):
 zaB P h st (.slice (some ⟨b,off,none⟩) n c) (some (.int .i64 (lo:Int))) (some (.int .i64 (hh:Int))) none=some (.slice (some ⟨b,if c=lo then off else off+lo * P.cellsOf elem,none⟩) (hh - lo) (c - lo)):=by
 unfold zaB zbM
 rw[hu]
 simp only[hi,if_true,zcM,if_pos h2,if_pos h1]
 rw[if_neg (by omega),if_pos hc]
end
theorem zn3:∀(xs:List zaj) (i:Nat),(setsC xs).drop (0+i * 11)=setsC (xs.drop i):=fun xs i=>by
 by_cases q:i≤xs.length
 ·conv=>lhs; rw[←List.take_append_drop i xs,zbg]
  rw[List.drop_append,List.drop_of_length_le (by rw[zaI,List.length_take]; omega),List.nil_append,zaI,List.length_take,show 0+i * 11 - min i xs.length * 11=0 by rw[Nat.min_eq_left q]; omega,List.drop_zero]
 ·rw[List.drop_of_length_le (by rw[zaI]; omega),List.drop_of_length_le (by omega)]
  rfl
theorem zjL (P:Program) (h:AH) (t:TypeId) (x:Value):zan P h .clear #[t] [x]=zid P h t x:=by
 cases x <;> rfl
theorem zmJ:zas Tryz.prog 81=some (setC zaq):=by kernel_rfl
theorem zli:(Tryz.prog).cellsOf 81=11:=by kernel_rfl
theorem zlj:((Tryz.prog).info? 81).isSome=true:=by kernel_rfl
theorem zmK:(Tryz.prog).underlying 27=some (.slice 81):=by kernel_rfl
theorem zkf {K:Xs} (hk:K 88=none) {g:AH} {lim b n i:Nat} {i2:Int} {xs:List zaj} (w:zgk lim g b xs) (hn:n=xs.length) (hn2:n≤100000) (hi:i < n) (e2:i2=((i+1:Nat):Int)):
 Wf Tryz.prog K 88 [.slice (some ⟨b,0,none⟩) n n,.int .i64 (i:Int),.int .i64 i2] g fun v g'=>(∃c',v=.slice (some ⟨b,0,none⟩) (n - 1) c')∧zbR b g g'∧zgk lim g' b (xs.eraseIdx i ++ [zaq]):=by
 subst e2
 have hoc:n < zar:=by simp only[zar]; omega
 have hxl:=zaI xs
 refine znT hk _ _ _ _ _ g _ ⟨_,_,_,zxC zmK zlj hoc (by omega) (by omega) (Nat.le_refl n),fun z=>absurd z (by omega),fun _=>⟨_,_,_,zwZ zmK zlj hoc (by omega),_,_,_,zw0 zmK zlj hoc (by omega) (Nat.le_refl n),?_⟩⟩
 rw[zli]
 have G:zdH lim g 81 11 b i n (setsC (xs.take i)):=⟨by rw[zaI,List.length_take]; omega,w.lo,w.hi,by omega,hoc,setsC (xs.drop i),by rw[←zbg,List.take_append_drop]; exact w.get,by rw[←zbg,List.take_append_drop,zaI,hn]⟩
 have S:zaR g (some ⟨b,if n=i+1 then 0 else 0+(i+1) * 11,none⟩) (n - (i+1)) 11 (setsC (xs.drop (i+1))):=by
  refine⟨by rw[zaI,List.length_drop]; omega,?_⟩
  by_cases q:n=i+1
  ·exact .inl (by omega)
  ·rw[if_neg q]
   refine .inr ⟨b,_,_,_,_,rfl,w.hi,w.get,by rw[zaI]; omega,?_⟩
   rw[zn3 xs (i+1),List.take_of_length_le (by rw[zaI,List.length_drop]; omega)]
 obtain⟨g12,k12,G12,nr12⟩:=G.app znY (x:=.slice (some ⟨b,if n=i+1 then 0 else 0+(i+1) * 11,none⟩) (n - (i+1)) (n - (i+1))) (m:=n - (i+1)) rfl (S.firstC (.inr ⟨_,_,rfl⟩)) S.1 (by omega)
 refine⟨_,_,_,g12,k12,?_⟩
 obtain⟨h1,h2,h3,h4,h5,rest,h6,h7⟩:=G12
 have hsum:i+(n - (i+1))=n - 1:=by omega
 rw[hsum] at *
 have hrl:rest.length=11:=by rw[List.length_append,h1] at h7; omega
 refine⟨_,_,_,zw1 zmK zlj hoc (by omega) (Nat.le_refl n),?_⟩
 rw[if_neg (by omega),zli,show n - (n - 1)=0+1 by omega,Nat.zero_add]
 have he:xs.take i ++ xs.drop (i+1)=xs.eraseIdx i:=(List.eraseIdx_eq_take_drop_succ xs i).symm
 have hget:g12.get b=some (.cells (setsC (xs.eraseIdx i) ++ rest) 81 false):=by rw[←he,zbg]; exact h6
 have hel:(setsC (xs.eraseIdx i)).length=(n - 1) * 11:=by rw[zaI,List.length_eraseIdx_of_lt (by omega),hn]
 refine⟨g12.set b (.cells (setsC (xs.eraseIdx i) ++ setC zaq) 81 false),?_,⟨_,rfl⟩,nr12.trans (zak _ _ _),h2,h3,by rw[zad,zbg,zdS],fun r hr=>?_⟩
 ·rw[zjL]
  unfold zid
  rw[zmK]
  simp only[zmJ,zli,zbA,if_true]
  have:zay g12 b ((n - 1) * 11) (setC zaq)=some (g12.set b (.cells (setsC (xs.eraseIdx i) ++ setC zaq) 81 false)):=by
   unfold zay
   rw[hget]
   simp only
   rw[if_pos (by rw[List.length_append,zbA]; omega),←hel,List.take_left,zbA,List.drop_of_length_le (by rw[List.length_append]; omega),List.append_nil]
  rw[show (List.replicate (0+1) (setC zaq)).flatten=setC zaq from rfl,this]
 ·rcases za1.1 hr with hr | rfl
  ·obtain⟨k1,k2⟩:=w.recs r (List.mem_of_mem_eraseIdx hr)
   exact⟨k1.kept (by show g.next≤g12.next; rw[nr12.1]; exact Nat.le_refl _) fun a ha=>by rw[zaC (k2 a ha)]; exact nr12.2 _ (k2 a ha),k2⟩
  ·exact⟨⟨zef _,.inl ⟨rfl,rfl,by show (0:Nat) < zar; simp[zar]⟩,fun a ha=>by cases ha⟩,fun a ha=>by cases ha⟩
theorem zgk.bookPre {lim b m:Nat} {g:AH} {ys zs:List zaj} (w:zgk lim g b (ys ++ zs)) (hm:m=ys.length) (hm2:m≤100000):zb0 g (some ⟨b,0,none⟩) m ys:=by
 subst hm
 have hre:reachBytes=140737488351232:=rfl
 refine⟨zla ⟨zaI ys,.inr ⟨b,0,_,_,_,rfl,w.hi,w.get,by rw[zbg,List.length_append,zaI]; omega,by rw[List.drop_zero,zbg,←zaI,List.take_left]⟩⟩ (by omega) fun r hr=>(w.recs r (List.mem_append_left _ hr)).1.1,fun r hr=>(w.recs r (List.mem_append_left _ hr)).1,.inr ⟨_,_,rfl⟩⟩
theorem ze6:∀{rs:List zaj},(rs.Pairwise fun a b=>a.id < b.id)→∀{i:Nat} {v:zaj},rs[i]?= some v→rs.eraseIdx i=rs.filter fun r=>!decide (r.id=v.id)
 | [],_,i,v,h=>by cases i <;> cases h
 | x :: l,hp,0,v,h=>by
   cases h
   rw[List.pairwise_cons] at hp
   rw[List.eraseIdx_cons_zero,List.filter_cons_of_neg (by simp),List.filter_eq_self.2 fun r hr=>by
    have:=hp.1 r hr
    simp
    omega]
 | x :: l,hp,i+1,v,h=>by
   rw[List.pairwise_cons] at hp
   have hv:l[i]?= some v:=h
   have:=hp.1 v (List.mem_of_getElem? hv)
   rw[List.eraseIdx_cons_succ,List.filter_cons_of_pos (by simp; omega),ze6 hp.2 hv]
theorem zcf {α β:Type} (f:α→β):∀(l:List α) (i:Nat),(l.eraseIdx i).map f=(l.map f).eraseIdx i
 | [],_=>rfl
 | x :: l,0=>rfl
 | x :: l,i+1=>by
   rw[List.eraseIdx_cons_succ,List.map_cons,List.map_cons,List.eraseIdx_cons_succ,zcf f l i]
theorem zro {nx:Int} {rs xs:List zaj} (R:zam nx rs) (h:xs.map cor=rs.map cor) {i:Nat} {v:zaj} (hi:rs[i]?= some v):(xs.eraseIdx i).map cor=(rs.filter fun r=>!decide (r.id=v.id)).map cor:=by
 rw[←ze6 R.fam.ord hi,zcf,zcf,h]
theorem zfo {nx:Int} {rs:List zaj} (R:zam nx rs) {o:Option (ByteArray×ByteArray)} {a:ByteArray} {i:Nat} {v:zaj} (ha:volOf o=some a) (hl:lookOf rs o=some i) (hv:rs[i]?= some v):v.snap=false:=by
 cases o with
 | none=>cases ha
 | some q=>
   obtain⟨x,y⟩:=q
   unfold volOf at ha
   simp only at ha
   split at ha
   ·rename_i e
    subst e
    unfold lookOf lookN at hl
    simp only at hl
    cases hp:plcC rs (0,x) with
    | none=>rw[hp] at hl; cases hl
    | some j=>
      rw[hp] at hl
      simp only at hl
      rw[if_pos trivial] at hl
      cases hl
      obtain⟨r,hr,hc⟩:=zee hp
      rw[hv] at hr
      cases hr
      cases hs:v.snap with
      | false=>rfl
      | true=>
        unfold zdk at hc
        rw[if_pos hs] at hc
        have h1:=(Prod.mk.inj hc).1
        have:=(R.ent (List.mem_of_getElem? hv)).2.1.1
        omega
   ·cases ha
noncomputable def zav (nx:Int) (rs:List zaj) (o:Option (ByteArray×ByteArray)):Int×List zaj×zaj×Int:=match volOf o with
 | none=>(nx,rs,zaq,141)
 | some _=>match lookOf rs o with
   | none=>(nx,rs,zaq,172)
   | some i=>match rs[i]? with
     | none=>(nx,rs,zaq,0)
     | some v=>if 0 < (rs.filter fun x=>x.snap && decide (x.own=v.id)).length then (nx,rs,zaq,173) else (nx,rs.filter fun r=>!decide (r.id=v.id),v,0)
structure zuj (K:Xs):Prop where
 a2:zui K
 dropVol:K 65=none
 delete:K 88=none
 chain:K 58=none
 way:K 82=none
section
variable {K:Xs} {h:AH} {p:Option Addr} {n c:Nat} {rs:List zaj} {nx:Int}
theorem zn4 (kk:zuj K) (T:zb0 h p n rs) (R:zam nx rs) (hn40:n≤1000) (f:ByteArray) (hf:f.size≤9223372036854775806):
 Wf Tryz.prog K 65 [.agg #[.int .u64 nx,.slice p n c],.string f] h fun v h'=>zwr (zav nx rs (spl f)) v h'∧Old h h':=by
 refine ziV kk.dropVol _ _ _ _ _ h _ fun g0 e0 g1 e1 g2 e2=>?_
 have kr:=kk.a2.a.r
 have o2:=zab e2
 have n2:=zaa e2
 have n1:=zaa e1
 have n0:=zaa e0
 have d2:=(HdB.of e0 e1).old o2
 have hn:=T.1.1
 have c2:∀{g:AH},Old g2 g→g.get g1.next=some (.cells (setC zaq) 81 false):=fun o=>(o.2 _ (by omega)).trans (zaf e2)
 have err:∀{e:Int},zav nx rs (spl f)=(nx,rs,zaq,e)→∀i p' n' c' g',zb2 nx rs i p' n' g'→Old h g'→g'.get g1.next=some (.cells (setC zaq) 81 false)→
  ∃i41:Int,∃s42:ByteArray,∃b43:Bool,∃i44:Int,∃i45:Int,∃i46:Int,∃i47:Int,∃i48:Int,∃i49:Int,∃i50:Int,∃(p51:Option Addr) (n52 c53:Nat),ldN g' g1.next 0 11=some [.int .u64 i41,.string s42,.bool b43,.int .u64 i44,.int .u64 i45,.int .u64 i46,.int .i64 i47,.int .i64 i48,.int .u64 i49,.int .u32 i50,.slice p51 n52 c53]∧
   (zwr (zav nx rs (spl f)) (.tuple #[.agg #[.int .u64 i,.slice p' n' c'],.agg #[.int .u64 i41,.string s42,.bool b43,.int .u64 i44,.int .u64 i45,.int .u64 i46,.int .i64 i47,.int .i64 i48,.int .u64 i49,.int .u32 i50,.slice p51 n52 c53],.int .i64 e]) g'∧Old h g'):=fun e i p' n' c' g' br o cz=>
  ⟨_,_,_,_,_,_,_,_,_,_,_,_,_,zah cz rfl,⟨i,p',n',c',zaq,by rw[e]; rfl,by rw[e]; exact br,zef _,by rw[e]⟩,o⟩
 have errB:∀{g:AH} {e:Int},Old g2 g→zav nx rs (spl f)=(nx,rs,zaq,e)→_:=fun {g} {e} og q=>zxt kr (d2.old og) T hn40 (l:=g1.next) (by omega) (by have:=og.1; omega) (c2 og) (err q)
 refine⟨_,_,_,_,d2.ldN,(zi9 kr (c:=c) (T.1.old d2.o) R f hf nx).mono ?_⟩
 rintro _ g8 ⟨rfl,o8⟩
 have d8:=d2.old o8
 rcases zgm rs (spl f) with ⟨hv,e⟩ | ⟨⟨a,hv⟩,hl,e⟩ | ⟨a,i,v,hv,hl,hr,e⟩
 ·rw[e]
  exact⟨_,_,rfl,fun z=>absurd z (by decide),fun _=>errB o8 (by unfold zav; rw[hv])⟩
 ·rw[e]
  exact⟨_,_,rfl,fun z=>absurd z (by decide),fun _=>errB o8 (by unfold zav; rw[hv]; simp only; rw[hl])⟩
 ·rw[e]
  have hvs:=zfo R hv hl hr
  obtain⟨hi,rfl⟩:=List.getElem?_eq_some_iff.1 hr
  have hin:i < n:=by omega
  have T8:=T.1.old d8.o
  have hch:=(R.chain hr hvs).2.2
  have hdv:zav nx rs (spl f)=if 0 < (rs.filter fun x=>x.snap && decide (x.own=rs[i].id)).length then (nx,rs,zaq,173) else (nx,rs.filter fun r=>!decide (r.id=rs[i].id),rs[i],0):=by unfold zav; rw[hv]; simp only; rw[hl]; simp only; rw[hr]
  rw[←hch] at hdv
  obtain⟨pb,off,rfl,hi',hld,hld1,ok⟩:=T8.at hin
  refine⟨_,_,rfl,fun _=>⟨_,_,_,d8.sl,_,_,_,d8.sl,zag ⟨by omega,by omega,_,by rw[Int.toNat_natCast]; exact hld1 0 _ rfl,(zmz kk.chain kk.way kk.a2.a.fplace T8 rs[i].id).mono ?_⟩⟩,fun z=>absurd rfl z⟩
  rintro _ g21 ⟨pp,m,cc,rfl,G,o21⟩
  have d21:=d8.old o21
  have hm:m=(wayR rs rs[i].id).1.length:=by have:=G.1; rw[zdl] at this; omega
  refine⟨_,_,_,rfl,fun q=>errB (o8.trans o21) (by rw[hdv,if_pos (by omega)]),fun q=>?_⟩
  rw[if_neg (by omega)] at hdv
  refine⟨_,_,_,_,d21.ldN,(zgM kr d21 T hn40).mono ?_⟩
  rintro _ g42 ⟨b,xs,rfl,hbl,hc,hnew,o42,F⟩
  refine⟨_,_,_,_,rfl,fun g47 e47=>?_⟩
  obtain⟨g48,k48,o48,u⟩:=F g47 e47
  have hxl:=za5 hc
  refine⟨rfl,g48,k48,_,_,_,u.sl,fun i69 e69=>(zkf kk.delete u.own (by omega) (by omega) hin (zcj e69 (by omega) (by omega) |>.trans (by omega))).mono ?_⟩
  rintro _ g71 ⟨⟨c',rfl⟩,nr71,w71⟩
  have lc71:=(nr71.2 _ u.lcb).trans u.loc
  obtain⟨g75,k75,nr75,lc75⟩:=zmI (v:=.slice (some ⟨b,0,none⟩) (n - 1) c') lc71 (i:=1) (by simp)
  have far1:∀r∈xs.eraseIdx i ++ [zaq],∀a,r.dp=some a→g21.next≤a.block∧a.block≠g42.next:=fun r hr a ha=>by
   rcases za1.1 hr with hr | rfl
   ·have hm:=List.mem_of_mem_eraseIdx hr
    exact⟨hnew r hm a ha,(u.far r hm a ha).1⟩
   ·cases ha
  have lcb:=u.lcb
  have w75:=w71.temp (x:=g42.next) lcb (fun r hr a ha=>(far1 r hr a ha).2) nr75
  have d75:=(u.hd.near nr71 u.own.lo).near nr75 u.lcl
  obtain⟨pb',off',ep,hi'',hld', -,ok75⟩:=(T.1.old d75.o).at hin
  obtain⟨rfl,rfl⟩:pb=pb'∧off=off':=by injection ep with ep; injection ep with ep1 ep2; exact⟨ep1,ep2⟩
  refine⟨_,_,_,rfl,g75,k75,_,_,_,d75.sl,zag ⟨by omega,by omega,_,_,_,_,_,_,_,_,_,_,_,_,_,by rw[Int.toNat_natCast]; exact hld',(zfj kr.named0.copy ok75).mono ?_⟩⟩
  rintro _ g95 ⟨p',c'',rfl,ok95,G',o95⟩
  have hp' : ∀a,p'= some a→g75.next≤a.block∧a.block < g95.next:=fun a ha=>G'.block ha
  have d95:=d75.old o95
  have w95:=w75.old o95
  have lc75l:g42.next < g75.next:=by rw[nr75.1,nr71.1]; exact u.lch
  have lc95:=(o95.2 _ lc75l).trans lc75
  have m0:=d21.lt
  have m1:=d21.n0
  have m2:=o21.1
  have m3:=o8.1
  have m4:=o42.1
  have m5:=o48.1
  have m6:=o95.1
  have nf:g75.next=g48.next:=nr75.1.trans nr71.1
  have s1:=zak g0.next g95 (.cells [.int .u64 nx,.slice (some ⟨b,0,none⟩) (n - 1) c'] 29 false)
  have cl:(g95.set g0.next (.cells [.int .u64 nx,.slice (some ⟨b,0,none⟩) (n - 1) c'] 29 false)).get g1.next=some (.cells (setC zaq) 81 false):=by
   rw[s1.2 _ (by omega),o95.2 _ (by omega),nr75.2 _ (by omega),nr71.2 _ (by omega)]
   exact c2 (((o8.trans o21).trans o42).trans o48)
  have s2:=zak g1.next (g95.set g0.next (.cells [.int .u64 nx,.slice (some ⟨b,0,none⟩) (n - 1) c'] 29 false)) (.cells (setC { rs[i] with dp:=p',dc:=c'' }) 81 false)
  have w1:=w95.temp (x:=g0.next) (by omega) (fun r hr a ha=>by have:=(far1 r hr a ha).1; omega) s1
  have w2:=w1.temp (x:=g1.next) (by omega) (fun r hr a ha=>by have:=(far1 r hr a ha).1; omega) s2
  have ok84:=(ok95.keep (by rw[s1.1]; exact Nat.le_refl _) fun a ha=>s1.2 _ (by have:=(hp' a ha).1; omega))
  have ok85:=(ok84.keep (by rw[s2.1]; exact Nat.le_refl _) fun a ha=>s2.2 _ (by have:=(hp' a ha).1; omega))
  have hel:n - 1=(xs.eraseIdx i).length:=by rw[List.length_eraseIdx_of_lt (by omega)]; omega
  exact⟨_,_,_,_,_,_,_,_,_,_,_,_,_,rfl,_,_,_,_,zah lc95 rfl,rfl,_,zat d95.c1 rfl,rfl,_,zat cl rfl,zah lc75 rfl,zah lc95 rfl,_,_,_,_,zah ((s2.2 _ (by omega)).trans (zad _ _ _)) rfl,_,_,_,_,_,_,_,_,_,_,_,_,_,zah (zad _ _ _) rfl,⟨_,_,_,_,{ rs[i] with dp:=p',dc:=c'' },by rw[hdv]; rfl,by rw[hdv]; exact⟨rfl,_,w2.bookPre hel (by omega),zro R hc hr⟩,ok85,by rw[hdv]; rfl⟩,zao (zao d95.o s1 (by omega)) s2 (by omega)⟩
end
def zxu (o:Int×List zaj×List PtI×Int) (v:Value) (g:AH):Prop:=∃i p' n' c' pl nl cl,v=.tuple #[.agg #[.int .u64 i,.slice p' n' c'],.slice pl nl cl,.int .i64 o.2.2.2]∧zb2 o.1 o.2.1 i p' n' g∧DL g pl nl o.2.2.1
theorem DL.nil (g:AH):DL g none 0 []:=⟨⟨rfl,.inl rfl⟩,fun q hq=>(by cases hq),rfl,.inl rfl⟩
theorem zbC.dl {g:AH} {r:zaj} (k:zbC g r):DL g r.dp r.dn r.dead:=⟨k.shows,k.dead,k.len,k.form⟩
theorem zbh.dl {g:AH} {r:zaj} (k:zbh g r) {p:Option Addr} {n c:Nat} {d:List PtI} (D:DL g p n d) (C:zka Tryz.prog g 78 p n c) (hb:∀a,p=some a→a.block < g.next) (hn:n≤100000):zbh g { r with dp:=p,dn:=n,dc:=c,dead:=d }:=
 ⟨⟨k.1.id,k.1.own,k.1.prev,k.1.stamp,k.1.root,D.wf,D.form,by have:reachBytes=140737488351232:=rfl; show n * 24≤_; omega,D.len,D.shows⟩,C,hb⟩
theorem DL.kept {g g' : AH} {p:Option Addr} {n:Nat} {l:List PtI} (d:DL g p n l) (hn:g.next≤g'.next) (k:∀a,p=some a→g'.get a.block=g.get a.block):DL g' p n l:=⟨d.shows.kept hn k,d.wf,d.len,d.form⟩
theorem zam.flr0 {nx:Int} {rs:List zaj} (R:zam nx rs) (id:Int):0≤flr rs id:=by
 unfold flr
 split
 ·exact Int.le_refl 0
 ·split
  ·exact Int.le_refl 0
  ·split
   ·exact Int.le_refl 0
   ·split
    ·exact Int.le_refl 0
    ·split
     ·exact Int.le_refl 0
     ·rename_i x hx
      rcases (R.ent (List.mem_of_getElem? hx)).2.2.2.2.2.2.2.2 with ⟨-,h, -⟩ | ⟨-,h, -⟩ <;> omega
def zaw (nx:Int) (rs:List zaj) (lo:Option Nat) (ok:Bool):Int×List zaj×List PtI×Int:=if ok=false then (nx,rs,[],141) else match lo with
 | none=>(nx,rs,[],172)
 | some i=>match rs[i]? with
   | none=>(nx,rs,[],0)
   | some s=>if 0 < (clL rs s.id).length then (nx,rs,[],173) else match plcN rs (nextR rs s.id) with
     | none=>(nx,rs,[],172)
     | some j=>match rs[j]? with
       | none=>(nx,rs,[],0)
       | some z=>match mrg (oldD (flr rs s.id) z.dead) s.dead with
         | none=>(nx,rs,[],131)
         | some d=>if 4000 < d.length then (nx,rs,[],131) else (nx,(rs.map (zcP z s.prev d)).filter fun r=>!decide (r.id=s.id),zld (flr rs s.id) z.dead,0)
structure zuk (K:Xs):Prop where
 a3:zuj K
 dropSnap:K 66=none
 clones:K 89=none
 hang:zq1 K
 next:K 90=none
section
variable {K:Xs} {h:AH} {p:Option Addr} {n c:Nat} {rs:List zaj} {nx:Int}
theorem zmL (kk:zuk K) (T:zb0 h p n rs) (R:zam nx rs) (hn40:n≤1000) (f:ByteArray) (hf:f.size≤9223372036854775806) {A:Int×List zaj×List PtI×Int} (hA:A=zaw nx rs (lookOf rs (spl f)) (snapOf (spl f)).isSome):
 Wf Tryz.prog K 66 [.agg #[.int .u64 nx,.slice p n c],.string f] h fun v h'=>zxu A v h'∧Old h h':=by
 refine zhL kk.dropSnap _ _ _ _ _ h _ fun g0 e0 g1 e1=>?_
 have kr:=kk.a3.a2.a.r
 have kp:=kk.a3.a2.a.fplace
 have n1:=zaa e1
 have n0:=zaa e0
 have d1:=HdB.of e0 e1
 have hn:=T.1.1
 have err:∀{g:AH} {e:Int},HdB h g0 g nx p n c→A=(nx,rs,[],e)→∀i p' n' c' g',zb2 nx rs i p' n' g'→Old h g'→g.next≤g'.next→(∀y,y < g.next→y≠g0.next→g'.get y=g.get y)→zxu A (.tuple #[.agg #[.int .u64 i,.slice p' n' c'],.slice none 0 0,.int .i64 e]) g'∧Old h g':=fun d e i p' n' c' g' br o _ _=>⟨⟨i,p',n',c',none,0,0,by rw[e],by rw[e]; exact br,by rw[e]; exact DL.nil _⟩,o⟩
 refine (ze4 kr f hf).mono ?_
 rintro _ g3 ⟨⟨a,b,ha,hs,hb,rfl⟩ | ⟨ha,rfl⟩,o3⟩
 ·have d3:=d1.old o3
  rw[ha,Option.isSome_some] at hA
  refine⟨_,_,_,rfl,fun _=>⟨_,_,_,_,d3.ldN,(zcs kr (c:=c) (T.1.old d3.o) R f hf nx).mono ?_⟩,fun z=>absurd rfl z⟩
  rintro _ g12 ⟨rfl,o12⟩
  have d12:=d3.old o12
  cases hl:lookOf rs (spl f) with
  | none=>
    rw[hl] at hA
    exact⟨_,rfl,fun _=>zhj kr d12 T hn40 (err d12 (by rw[hA]; rfl)),fun z=>absurd (by rw[zdc]; decide) z⟩
  | some i=>
    obtain⟨v,hr⟩:=zcB hl
    rw[hl] at hA
    obtain⟨hi,rfl⟩:=List.getElem?_eq_some_iff.1 hr
    rw[zdb]
    have hin:i < n:=by omega
    have T12:=T.1.old d12.o
    obtain⟨pb,off,rfl,hi',hld,hld1,ok⟩:=T12.at hin
    have ldf:∀{g:AH},Old h g→∀(j:Nat) v,(setC rs[i])[j]?= some v→ld1 g pb (off+i * 11+j)=some v:=fun {g} o=>by
     obtain⟨pb',off',ep,hq', -,k, -⟩:=(T.1.old o).at hin
     obtain⟨rfl,rfl⟩:pb=pb'∧off=off':=by injection ep with ep; injection ep with ep1 ep2; exact⟨ep1,ep2⟩
     exact k
    unfold zaw at hA
    rw[if_neg (by decide)] at hA
    simp only at hA
    rw[hr] at hA
    simp only at hA
    refine⟨_,rfl,fun z=>absurd z (by omega),fun _=>⟨_,_,_,d12.sl,zag ⟨by omega,by omega,_,_,_,d12.sl,_,by rw[Int.toNat_natCast]; exact hld1 0 _ rfl,(zpL kk.clones kk.hang T12 hn40 rs[i].id).mono ?_⟩⟩⟩
    rintro _ g39 ⟨pp,m,cc,rfl,Gc,o39⟩
    have d39:=d12.old o39
    have hm:m=(clL rs rs[i].id).length:=by have:=Gc.1; rw[zdl] at this; omega
    refine⟨_,_,_,rfl,fun q=>zhj kr d39 T hn40 (err d39 (by rw[hA,if_pos (by omega)])),fun q=>⟨_,_,_,d39.sl,_,by rw[Int.toNat_natCast]; exact ldf d39.o 0 _ rfl,(ztb kk.next kk.hang (T.1.old d39.o) rs[i].id).mono ?_⟩⟩
    rw[if_neg (by omega)] at hA
    rintro _ g63 ⟨rfl,o63⟩
    have d63:=d39.old o63
    refine⟨_,rfl,_,_,_,d63.sl,(zhi kr (T.1.old d63.o) (nextR rs rs[i].id)).mono ?_⟩
    rintro _ g69 ⟨rfl,o69⟩
    have d69:=d63.old o69
    refine⟨_,rfl,d39.sl,d63.sl,fun q=>?_,fun q=>?_⟩
    ·cases hj:plcN rs (nextR rs rs[i].id) with
     | some j=>rw[zaS hj] at q; exact absurd q (by omega)
     | none=>exact zhj kr d69 T hn40 (err d69 (by rw[hA,hj]))
    ·cases hj:plcN rs (nextR rs rs[i].id) with
     | none=>rw[zcc hj] at q; exact absurd (by decide) q
     | some j=>
       rw[zaS hj]
       obtain⟨hjl, -⟩:=zbv hj
       have hjn:j < n:=by omega
       rw[hj] at hA
       simp only at hA
       have hz:rs[j]?= some rs[j]:=List.getElem?_eq_getElem hjl
       rw[hz] at hA
       simp only at hA
       refine⟨_,_,_,d69.sl,_,by rw[Int.toNat_natCast]; exact ldf d69.o 0 _ rfl,(zmw kk.a3.a2.a.floor kp (T.1.old d69.o) rs[i].id).mono ?_⟩
       rintro _ g91 ⟨rfl,rfl⟩
       obtain⟨pb',off',ep,hq', -,hldz,okz⟩:=(T.1.old d69.o).at hjn
       obtain⟨rfl,rfl⟩:pb=pb'∧off=off':=by injection ep with ep; injection ep with ep1 ep2; exact⟨ep1,ep2⟩
       have ez:=R.ent (List.getElem_mem hjl)
       have es:=R.ent (List.getElem_mem hi)
       have dz:=ez.2.2.2.2.2.2.1
       have ds:=es.2.2.2.2.2.2.1
       have hldz10:ld1 g69 pb (off+j * 11+10)=some (.slice rs[j].dp rs[j].dn rs[j].dc):=hldz 10 _ rfl
       refine⟨_,rfl,_,_,_,d69.sl,zag ⟨by omega,by omega,_,_,_,by rw[Int.toNat_natCast]; exact hldz10,(zpR kr.dead okz.dl (by omega) (R.flr0 _)).mono ?_⟩⟩
       rintro _ g102 ⟨⟨p1,m1,c1,p2,m2,c2,rfl,G1,G2⟩,o102⟩
       have d102:=d69.old o102
       have D1:=znZ G1 (fun q hq=>okz.dead q (List.mem_filter.1 hq).1)
       have D2:=znZ G2 (fun q hq=>okz.dead q (List.mem_filter.1 hq).1)
       have hm1:m1≤4000:=by
        rw[D1.len]
        have:(oldD (flr rs rs[i].id) rs[j].dead).length≤rs[j].dead.length:=List.length_filter_le _ _
        have:=okz.len
        omega
       have ks:=(T.2 _ (List.getElem_mem hi)).old d102.o
       refine⟨_,_,_,_,_,_,rfl,d69.sl,d69.sl,by rw[Int.toNat_natCast]; exact hldz10,by rw[Int.toNat_natCast]; exact hldz10,_,_,_,by rw[Int.toNat_natCast]; exact ldf d102.o 10 _ rfl,(zrl kr.dead D1 (G1.cutQ (by simp only[zar]; omega)) (fun a ha=>(G1.block ha).2) ks.1.dl ks.2.1 ks.2.2 (by omega) (by omega)).mono ?_⟩
       rintro _ g113 ⟨⟨d,p3,m3,c3,hmr,rfl,D3,C3,b3⟩ | ⟨hmr,rfl⟩,o113⟩
       ·have d113:=d102.old o113
        rw[hmr] at hA
        simp only at hA
        have l3:=D3.len
        refine⟨_,_,_,_,rfl,fun _=>⟨fun q=>zhj kr d113 T hn40 (err d113 (by rw[hA,if_pos (by omega)])),fun q=>⟨_,_,_,_,d113.ldN,(zgM kr d113 T hn40).mono ?_⟩⟩,fun z=>absurd rfl z⟩
        rw[if_neg (by omega)] at hA
        rintro _ g138 ⟨b0,xs,rfl,hbl,hc,hnew,o138,F⟩
        refine⟨_,_,_,_,rfl,fun g143 e143=>?_⟩
        obtain⟨g144,k144,o144,u⟩:=F g143 e143
        have hxl:=za5 hc
        have hjx:j < xs.length:=by omega
        have hxm:=List.getElem_mem hjx
        have m0:=d102.lt
        have m69:=d69.lt
        have m01:=d102.n0
        have m4:=o113.1
        have m5:=o138.1
        have m6:=o144.1
        have o113144:=o138.trans o144
        obtain⟨g151,k151,nr151,u151⟩:=u.st1 (i:=j) (k:=10) (v:=.slice p3 m3 c3) (r':={ xs[j] with dp:=p3,dn:=m3,dc:=c3,dead:=d }) hjx (by omega) rfl ((u.own.recs _ hxm).1.dl (D3.old o113144) (C3.old o113144 fun a ha=>(b3 a ha).2) (fun a ha=>by have:=(b3 a ha).2; omega) (by omega)) fun a ha=>by
         have:=b3 a ha
         omega
        have hjx2:j < (xs.set j { xs[j] with dp:=p3,dn:=m3,dc:=c3,dead:=d }).length:=by simpa using hjx
        have hge:(xs.set j { xs[j] with dp:=p3,dn:=m3,dc:=c3,dead:=d })[j]'hjx2={ xs[j] with dp:=p3,dn:=m3,dc:=c3,dead:=d }:=List.getElem_set_self ..
        have hxm2:=List.getElem_mem hjx2
        have rk:=(u151.own.recs _ hxm2).1.prev (pr:=rs[i].prev) ok.prev
        have ra:=(u151.own.recs _ hxm2).2
        have rf:=u151.far _ hxm2
        rw[hge] at rk ra rf
        obtain⟨g157,k157,nr157,u157⟩:=u151.st1 (i:=j) (k:=4) (v:=.int .u64 rs[i].prev) (r':={ xs[j] with dp:=p3,dn:=m3,dc:=c3,dead:=d,prev:=rs[i].prev }) hjx2 (by omega) (by rw[hge]; rfl) rk fun a ha=>⟨ra a ha,rf a ha⟩
        refine⟨rfl,g144,k144,_,_,_,u.sl,_,by rw[Int.toNat_natCast]; exact ldf u.hd.o 4 _ rfl,zag ⟨by omega,by omega,g151,k151,_,_,_,u151.sl,zag ⟨by omega,by omega,g157,k157,u.sl,u151.sl,_,_,_,u157.sl,fun i161 e161=>?_⟩⟩⟩
        have hxs:=u157.own
        rw[List.set_set] at hxs u157
        generalize hys:xs.set j { xs[j] with dp:=p3,dn:=m3,dc:=c3,dead:=d,prev:=rs[i].prev }= ys at *
        have hyl:ys.length=xs.length:=by rw[←hys]; simp
        have hyc:ys.map cor=(rs.map (zcP rs[j] rs[i].prev d)).map cor:=by
         rw[←hys]
         refine zn1 R hc hz (fun r _ hne=>zeh hne _ _) ?_
         rw[zdT]
         obtain⟨y,hy,hcy⟩:=zcA hc (List.getElem?_eq_getElem hjx)
         rw[hz] at hy
         cases hy
         have q:=zaL hcy
         exact zfR ⟨q.1,q.2.1,q.2.2.1,q.2.2.2.1,rfl,q.2.2.2.2.2.1,q.2.2.2.2.2.2.1,q.2.2.2.2.2.2.2.1,l3,rfl⟩
        refine (zkf kk.a3.delete hxs (by omega) (by omega) hin (zcj e161 (by omega) (by omega) |>.trans (by omega))).mono ?_
        rintro _ g163 ⟨⟨c',rfl⟩,nr163,w163⟩
        have lc163:=(nr163.2 _ u157.lcb).trans u157.loc
        obtain⟨g167,k167,nr167,lc167⟩:=zmI (v:=.slice (some ⟨b0,0,none⟩) (n - 1) c') lc163 (i:=1) (by simp)
        have far1:∀r∈ys.eraseIdx i ++ [zaq],∀a,r.dp=some a→a.block≠g138.next∧a.block≠g0.next:=fun r hr a ha=>by
         rcases za1.1 hr with hr | rfl
         ·exact u157.far r (List.mem_of_mem_eraseIdx hr) a ha
         ·cases ha
        have w167:=w163.temp (x:=g138.next) u157.lcb (fun r hr a ha=>(far1 r hr a ha).1) nr167
        have d167:=(u157.hd.near nr163 u157.own.lo).near nr167 u157.lcl
        have ob:=u157.own.lo
        have oc:=u157.lcl
        have hl167:g0.next < g167.next:=by have:=d167.lt; have:=d167.n0; omega
        have hel:n - 1=(ys.eraseIdx i).length:=by rw[List.length_eraseIdx_of_lt (by omega)]; omega
        refine⟨_,_,_,rfl,g167,k167,_,_,_,_,zah lc167 rfl,rfl,zuh hl167 d167.c1 rfl fun g' nr=>?_⟩
        have D2' : DL g144 p2 m2 (zld (flr rs rs[i].id) rs[j].dead):=(D2.old o113).old o113144
        have D2'' : DL g' p2 m2 (zld (flr rs rs[i].id) rs[j].dead):=D2'.kept (by rw[nr.1,nr167.1,nr163.1,nr157.1,nr151.1]; exact Nat.le_refl _) fun a ha=>by
         have hb2:=G2.block ha
         rw[nr.2 _ (by omega),nr167.2 _ (by omega),nr163.2 _ (by omega),nr157.2 _ (by omega),nr151.2 _ (by omega)]
        have w':=w167.temp (x:=g0.next) (by omega) (fun r hr a ha=>(far1 r hr a ha).2) nr
        have hfin:(ys.eraseIdx i).map cor=((rs.map (zcP rs[j] rs[i].prev d)).filter fun r=>!decide (r.id=rs[i].id)).map cor:=by
         have ord:(rs.map (zcP rs[j] rs[i].prev d)).Pairwise fun a b=>a.id < b.id:=by
          rw[List.pairwise_map]
          exact R.fam.ord.imp fun {a b} q=>by rw[(zbp rs[j] rs[i].prev d a).1,(zbp rs[j] rs[i].prev d b).1]; exact q
         have hri:(rs.map (zcP rs[j] rs[i].prev d))[i]?= some (zcP rs[j] rs[i].prev d rs[i]):=by rw[List.getElem?_map,hr]; rfl
         have he:=ze6 ord hri
         rw[(zbp rs[j] rs[i].prev d rs[i]).1] at he
         skip
         rw[←he,zcf,zcf,hyc]
        exact⟨⟨_,_,_,_,_,_,_,by rw[hA],by rw[hA]; exact⟨rfl,_,w'.bookPre hel (by omega),hfin⟩,by rw[hA]; exact D2''⟩,zao d167.o nr (by omega)⟩
       ·have d113:=d102.old o113
        rw[hmr] at hA
        exact⟨_,_,_,_,rfl,fun z=>absurd z (by decide),fun _=>zhj kr d113 T hn40 (err d113 (by rw[hA]))⟩
 ·rw[ha] at hA
  exact⟨_,_,_,rfl,fun z=>absurd z (by decide),fun _=>zhj kr (d1.old o3) T hn40 (err (d1.old o3) (by rw[hA]; rfl))⟩
end
section
variable {h g0 g:AH} {bn:Int} {p:Option Addr} {n c lc b:Nat} {nx:Int} {m c' : Nat} {xs:List zaj}
end
structure zv0 (K:Xs):Prop where
 a4:zuk K
section
variable {K:Xs} {h:AH} {p:Option Addr} {n c:Nat} {rs:List zaj} {nx:Int}
end
end Go.Am
