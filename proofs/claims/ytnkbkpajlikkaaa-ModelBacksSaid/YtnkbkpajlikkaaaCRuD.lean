/-
  BOOKS: a record is taken out of a list of one's own.
-/
import Derived.Test.YtnkbkpajlikkaaaCRuC
set_option linter.unusedVariables false
set_option linter.unusedSimpArgs false
set_option maxRecDepth 100000
namespace Go.Am
open Go.Proofs
section
variable {P:Program} {h:AH} {st elem:TypeId} {b off n c:Nat}
theorem slc3 (hu:P.underlying st=some (.slice elem)) (hi:(P.info? elem).isSome=true) (hc:c < openCap) {lo hh m:Nat} (h1:lo≤hh) (h2:hh≤m) (h3:m≤c):
 aSlice P h st (.slice (some ⟨b,off,none⟩) n c) (some (.int .i64 (lo:Int))) (some (.int .i64 (hh:Int))) (some (.int .i64 (m:Int)))=some (.slice (some ⟨b,if m=lo then off else off+lo * P.cellsOf elem,none⟩) (hh - lo) (m - lo)):=by
 unfold aSlice aBounds
 rw[hu]
 simp only[hi,if_true,boundNat,if_pos h3,if_pos h2,if_pos h1]
 rw[if_neg (by omega),if_pos hc]
theorem slcHi (hu:P.underlying st=some (.slice elem)) (hi:(P.info? elem).isSome=true) (hc:c < openCap) {hh:Nat} (h2:hh≤c):
 aSlice P h st (.slice (some ⟨b,off,none⟩) n c) none (some (.int .i64 (hh:Int))) none=some (.slice (some ⟨b,off,none⟩) hh c):=by
 unfold aSlice aBounds
 rw[hu]
 simp only[hi,if_true,boundNat,if_pos h2]
 rw[if_neg (by omega),if_pos hc]
 simp
theorem slcLo (hu:P.underlying st=some (.slice elem)) (hi:(P.info? elem).isSome=true) (hc:c < openCap) {lo:Nat} (h1:lo≤n) (h2:n≤c):
 aSlice P h st (.slice (some ⟨b,off,none⟩) n c) (some (.int .i64 (lo:Int))) none none=some (.slice (some ⟨b,if c=lo then off else off+lo * P.cellsOf elem,none⟩) (n - lo) (c - lo)):=by
 unfold aSlice aBounds
 rw[hu]
 simp only[hi,if_true,boundNat,if_pos h1]
 rw[if_neg (by omega),if_pos hc]
theorem slcLH (hu:P.underlying st=some (.slice elem)) (hi:(P.info? elem).isSome=true) (hc:c < openCap) {lo hh:Nat} (h1:lo≤hh) (h2:hh≤c):
 aSlice P h st (.slice (some ⟨b,off,none⟩) n c) (some (.int .i64 (lo:Int))) (some (.int .i64 (hh:Int))) none=some (.slice (some ⟨b,if c=lo then off else off+lo * P.cellsOf elem,none⟩) (hh - lo) (c - lo)):=by
 unfold aSlice aBounds
 rw[hu]
 simp only[hi,if_true,boundNat,if_pos h2,if_pos h1]
 rw[if_neg (by omega),if_pos hc]
end
theorem setsC_drop0:∀(xs:List SetR) (i:Nat),(setsC xs).drop (0+i * 11)=setsC (xs.drop i):=fun xs i=>by
 by_cases q:i≤xs.length
 ·conv=>lhs; rw[←List.take_append_drop i xs,setsC_app]
  rw[List.drop_append,List.drop_of_length_le (by rw[setsC_len,List.length_take]; omega),List.nil_append,setsC_len,List.length_take,show 0+i * 11 - min i xs.length * 11=0 by rw[Nat.min_eq_left q]; omega,List.drop_zero]
 ·rw[List.drop_of_length_le (by rw[setsC_len]; omega),List.drop_of_length_le (by omega)]
  rfl
theorem aBuiltin_clear (P:Program) (h:AH) (t:TypeId) (x:Value):aBuiltin P h .clear #[t] [x]=aClear P h t x:=by
 cases x <;> rfl
theorem zeroSetCells:zeroCellsOf Try.prog 59=some (setC zeroR):=by kernel_rfl
theorem cellsSet:(Try.prog).cellsOf 59=11:=by kernel_rfl
theorem infoSet:((Try.prog).info? 59).isSome=true:=by kernel_rfl
theorem undSet:(Try.prog).underlying 47=some (.slice 59):=by kernel_rfl
theorem deleteSpec {K:Xs} (hk:K 61=none) {g:AH} {lim b n i:Nat} {i2:Int} {xs:List SetR} (w:OwnB lim g b xs) (hn:n=xs.length) (hn2:n≤100000) (hi:i < n) (e2:i2=((i+1:Nat):Int)):
 Wf Try.prog K 61 [.slice (some ⟨b,0,none⟩) n n,.int .i64 (i:Int),.int .i64 i2] g fun v g'=>(∃c',v=.slice (some ⟨b,0,none⟩) (n - 1) c')∧Near b g g'∧OwnB lim g' b (xs.eraseIdx i ++ [zeroR]):=by
 subst e2
 have hoc:n < openCap:=by simp only[openCap]; omega
 have hxl:=setsC_len xs
 refine vc_api_Set_ hk _ _ _ _ _ g _ ⟨_,_,_,slc3 undSet infoSet hoc (by omega) (by omega) (Nat.le_refl n),fun z=>absurd z (by omega),fun _=>⟨_,_,_,slcHi undSet infoSet hoc (by omega),_,_,_,slcLo undSet infoSet hoc (by omega) (Nat.le_refl n),?_⟩⟩
 rw[cellsSet]
 have G:GrowC lim g 59 11 b i n (setsC (xs.take i)):=⟨by rw[setsC_len,List.length_take]; omega,w.lo,w.hi,by omega,hoc,setsC (xs.drop i),by rw[←setsC_app,List.take_append_drop]; exact w.get,by rw[←setsC_app,List.take_append_drop,setsC_len,hn]⟩
 have S:Shows g (some ⟨b,if n=i+1 then 0 else 0+(i+1) * 11,none⟩) (n - (i+1)) 11 (setsC (xs.drop (i+1))):=by
  refine⟨by rw[setsC_len,List.length_drop]; omega,?_⟩
  by_cases q:n=i+1
  ·exact .inl (by omega)
  ·rw[if_neg q]
   refine .inr ⟨b,_,_,_,_,rfl,w.hi,w.get,by rw[setsC_len]; omega,?_⟩
   rw[setsC_drop0 xs (i+1),List.take_of_length_le (by rw[setsC_len,List.length_drop]; omega)]
 obtain⟨g12,k12,G12,nr12⟩:=G.app eSetF (x:=.slice (some ⟨b,if n=i+1 then 0 else 0+(i+1) * 11,none⟩) (n - (i+1)) (n - (i+1))) (m:=n - (i+1)) rfl (S.firstC (.inr ⟨_,_,rfl⟩)) S.1 (by omega)
 refine⟨_,_,_,g12,k12,?_⟩
 obtain⟨h1,h2,h3,h4,h5,rest,h6,h7⟩:=G12
 have hsum:i+(n - (i+1))=n - 1:=by omega
 rw[hsum] at *
 have hrl:rest.length=11:=by rw[List.length_append,h1] at h7; omega
 refine⟨_,_,_,slcLH undSet infoSet hoc (by omega) (Nat.le_refl n),?_⟩
 rw[if_neg (by omega),cellsSet,show n - (n - 1)=0+1 by omega,Nat.zero_add]
 have he:xs.take i ++ xs.drop (i+1)=xs.eraseIdx i:=(List.eraseIdx_eq_take_drop_succ xs i).symm
 have hget:g12.get b=some (.cells (setsC (xs.eraseIdx i) ++ rest) 59 false):=by rw[←he,setsC_app]; exact h6
 have hel:(setsC (xs.eraseIdx i)).length=(n - 1) * 11:=by rw[setsC_len,List.length_eraseIdx_of_lt (by omega),hn]
 refine⟨g12.set b (.cells (setsC (xs.eraseIdx i) ++ setC zeroR) 59 false),?_,⟨_,rfl⟩,nr12.trans (near_set _ _ _),h2,h3,by rw[get_set_self,setsC_app,setsC_one],fun r hr=>?_⟩
 ·rw[aBuiltin_clear]
  unfold aClear
  rw[undSet]
  simp only[zeroSetCells,cellsSet,setC_len,if_true]
  have:aStoreCells g12 b ((n - 1) * 11) (setC zeroR)=some (g12.set b (.cells (setsC (xs.eraseIdx i) ++ setC zeroR) 59 false)):=by
   unfold aStoreCells
   rw[hget]
   simp only
   rw[if_pos (by rw[List.length_append,setC_len]; omega),←hel,List.take_left,setC_len,List.drop_of_length_le (by rw[List.length_append]; omega),List.append_nil]
  rw[show (List.replicate (0+1) (setC zeroR)).flatten=setC zeroR from rfl,this]
 ·rcases mem_snoc.1 hr with hr | rfl
  ·obtain⟨k1,k2⟩:=w.recs r (List.mem_of_mem_eraseIdx hr)
   exact⟨k1.kept (by show g.next≤g12.next; rw[nr12.1]; exact Nat.le_refl _) fun a ha=>by rw[get_set_ne (k2 a ha)]; exact nr12.2 _ (k2 a ha),k2⟩
  ·exact⟨⟨zeroSet _,.inl ⟨rfl,rfl,by show (0:Nat) < openCap; simp[openCap]⟩,fun a ha=>by cases ha⟩,fun a ha=>by cases ha⟩
end Go.Am
/-
 BOOKS:a volume is gone.
-/
set_option linter.unusedVariables false
set_option linter.unusedSimpArgs false
set_option maxRecDepth 100000
namespace Go.Am
open Go.Proofs
theorem OwnB.bookPre {lim b m:Nat} {g:AH} {ys zs:List SetR} (w:OwnB lim g b (ys ++ zs)) (hm:m=ys.length) (hm2:m≤100000):BookOk g (some ⟨b,0,none⟩) m ys:=by
 subst hm
 have hre:reachBytes=140737488351232:=rfl
 refine⟨sets_of ⟨setsC_len ys,.inr ⟨b,0,_,_,_,rfl,w.hi,w.get,by rw[setsC_app,List.length_append,setsC_len]; omega,by rw[List.drop_zero,setsC_app,←setsC_len,List.take_left]⟩⟩ (by omega) fun r hr=>(w.recs r (List.mem_append_left _ hr)).1.1,fun r hr=>(w.recs r (List.mem_append_left _ hr)).1,.inr ⟨_,_,rfl⟩⟩
theorem erase_filter:∀{rs:List SetR},(rs.Pairwise fun a b=>a.id < b.id)→∀{i:Nat} {v:SetR},rs[i]?= some v→rs.eraseIdx i=rs.filter fun r=>!decide (r.id=v.id)
 | [],_,i,v,h=>by cases i <;> cases h
 | x :: l,hp,0,v,h=>by
   cases h
   rw[List.pairwise_cons] at hp
   rw[List.eraseIdx_cons_zero,List.filter_cons_of_neg (by simp),List.filter_eq_self.2 fun r hr=>by
    have:=hp.1 r hr
    simp
    omega]
 | x :: l,hp,i+1,v,h=>by
   rw[List.pairwise_cons] at hp
   have hv:l[i]?= some v:=h
   have:=hp.1 v (List.mem_of_getElem? hv)
   rw[List.eraseIdx_cons_succ,List.filter_cons_of_pos (by simp; omega),erase_filter hp.2 hv]
theorem map_erase {α β:Type} (f:α→β):∀(l:List α) (i:Nat),(l.eraseIdx i).map f=(l.map f).eraseIdx i
 | [],_=>rfl
 | x :: l,0=>rfl
 | x :: l,i+1=>by
   rw[List.eraseIdx_cons_succ,List.map_cons,List.map_cons,List.eraseIdx_cons_succ,map_erase f l i]
theorem erase_cor {nx:Int} {rs xs:List SetR} (R:RightP nx rs) (h:xs.map cor=rs.map cor) {i:Nat} {v:SetR} (hi:rs[i]?= some v):(xs.eraseIdx i).map cor=(rs.filter fun r=>!decide (r.id=v.id)).map cor:=by
 rw[←erase_filter R.fam.ord hi,map_erase,map_erase,h]
theorem vol_snap {nx:Int} {rs:List SetR} (R:RightP nx rs) {o:Option (ByteArray×ByteArray)} {a:ByteArray} {i:Nat} {v:SetR} (ha:volOf o=some a) (hl:lookOf rs o=some i) (hv:rs[i]?= some v):v.snap=false:=by
 cases o with
 | none=>cases ha
 | some q=>
   obtain⟨x,y⟩:=q
   unfold volOf at ha
   simp only at ha
   split at ha
   ·rename_i e
    subst e
    unfold lookOf lookN at hl
    simp only at hl
    cases hp:plcC rs (0,x) with
    | none=>rw[hp] at hl; cases hl
    | some j=>
      rw[hp] at hl
      simp only at hl
      rw[if_pos trivial] at hl
      cases hl
      obtain⟨r,hr,hc⟩:=plcC_at hp
      rw[hv] at hr
      cases hr
      cases hs:v.snap with
      | false=>rfl
      | true=>
        unfold calK at hc
        rw[if_pos hs] at hc
        have h1:=(Prod.mk.inj hc).1
        have:=(R.ent (List.mem_of_getElem? hv)).2.1.1
        omega
   ·cases ha
noncomputable def dropVolA (nx:Int) (rs:List SetR) (o:Option (ByteArray×ByteArray)):Int×List SetR×SetR×Int:=match volOf o with
 | none=>(nx,rs,zeroR,141)
 | some _=>match lookOf rs o with
   | none=>(nx,rs,zeroR,172)
   | some i=>match rs[i]? with
     | none=>(nx,rs,zeroR,0)
     | some v=>if 0 < (rs.filter fun x=>x.snap && decide (x.own=v.id)).length then (nx,rs,zeroR,173) else (nx,rs.filter fun r=>!decide (r.id=v.id),v,0)
structure KActs3 (K:Xs):Prop where
 a2:KActs2 K
 dropVol:K 53=none
 delete:K 61=none
 chain:K 46=none
 way:K 33=none
section
variable {K:Xs} {h:AH} {p:Option Addr} {n c:Nat} {rs:List SetR} {nx:Int}
theorem dropVolSpec (kk:KActs3 K) (T:BookOk h p n rs) (R:RightP nx rs) (hn40:n≤1000) (f:ByteArray) (hf:f.size≤9223372036854775806):
 Wf Try.prog K 53 [.agg #[.int .u64 nx,.slice p n c],.string f] h fun v h'=>ResS (dropVolA nx rs (spl f)) v h'∧Old h h':=by
 refine vc_rule_DropVol kk.dropVol _ _ _ _ _ h _ fun g0 e0 g1 e1 g2 e2=>?_
 have kr:=kk.a2.a.r
 have o2:=old_of_alloc e2
 have n2:=next_of_alloc e2
 have n1:=next_of_alloc e1
 have n0:=next_of_alloc e0
 have d2:=(HdB.of e0 e1).old o2
 have hn:=T.1.1
 have c2:∀{g:AH},Old g2 g→g.get g1.next=some (.cells (setC zeroR) 59 false):=fun o=>(o.2 _ (by omega)).trans (get_of_alloc e2)
 have err:∀{e:Int},dropVolA nx rs (spl f)=(nx,rs,zeroR,e)→∀i p' n' c' g',BookR nx rs i p' n' g'→Old h g'→g'.get g1.next=some (.cells (setC zeroR) 59 false)→
  ∃i41:Int,∃s42:ByteArray,∃b43:Bool,∃i44:Int,∃i45:Int,∃i46:Int,∃i47:Int,∃i48:Int,∃i49:Int,∃i50:Int,∃(p51:Option Addr) (n52 c53:Nat),ldN g' g1.next 0 11=some [.int .u64 i41,.string s42,.bool b43,.int .u64 i44,.int .u64 i45,.int .u64 i46,.int .i64 i47,.int .i64 i48,.int .u64 i49,.int .u32 i50,.slice p51 n52 c53]∧
   (ResS (dropVolA nx rs (spl f)) (.tuple #[.agg #[.int .u64 i,.slice p' n' c'],.agg #[.int .u64 i41,.string s42,.bool b43,.int .u64 i44,.int .u64 i45,.int .u64 i46,.int .i64 i47,.int .i64 i48,.int .u64 i49,.int .u32 i50,.slice p51 n52 c53],.int .i64 e]) g'∧Old h g'):=fun e i p' n' c' g' br o cz=>
  ⟨_,_,_,_,_,_,_,_,_,_,_,_,_,ldN_all cz rfl,⟨i,p',n',c',zeroR,by rw[e]; rfl,by rw[e]; exact br,zeroSet _,by rw[e]⟩,o⟩
 have errB:∀{g:AH} {e:Int},Old g2 g→dropVolA nx rs (spl f)=(nx,rs,zeroR,e)→_:=fun {g} {e} og q=>errS kr (d2.old og) T hn40 (l:=g1.next) (by omega) (by have:=og.1; omega) (c2 og) (err q)
 refine⟨_,_,_,_,d2.ldN,(volAtSpec kr (c:=c) (T.1.old d2.o) R f hf nx).mono ?_⟩
 rintro _ g8 ⟨rfl,o8⟩
 have d8:=d2.old o8
 rcases volAt_cases rs (spl f) with ⟨hv,e⟩ | ⟨⟨a,hv⟩,hl,e⟩ | ⟨a,i,v,hv,hl,hr,e⟩
 ·rw[e]
  exact⟨_,_,rfl,fun z=>absurd z (by decide),fun _=>errB o8 (by unfold dropVolA; rw[hv])⟩
 ·rw[e]
  exact⟨_,_,rfl,fun z=>absurd z (by decide),fun _=>errB o8 (by unfold dropVolA; rw[hv]; simp only; rw[hl])⟩
 ·rw[e]
  have hvs:=vol_snap R hv hl hr
  obtain⟨hi,rfl⟩:=List.getElem?_eq_some_iff.1 hr
  have hin:i < n:=by omega
  have T8:=T.1.old d8.o
  have hch:=(R.chain hr hvs).2.2
  have hdv:dropVolA nx rs (spl f)=if 0 < (rs.filter fun x=>x.snap && decide (x.own=rs[i].id)).length then (nx,rs,zeroR,173) else (nx,rs.filter fun r=>!decide (r.id=rs[i].id),rs[i],0):=by unfold dropVolA; rw[hv]; simp only; rw[hl]; simp only; rw[hr]
  rw[←hch] at hdv
  obtain⟨pb,off,rfl,hi',hld,hld1,ok⟩:=T8.at hin
  refine⟨_,_,rfl,fun _=>⟨_,_,_,d8.sl,_,_,_,d8.sl,derefP_at ⟨by omega,by omega,_,by rw[Int.toNat_natCast]; exact hld1 0 _ rfl,(chainSpec kk.chain kk.way kk.a2.a.fplace T8 rs[i].id).mono ?_⟩⟩,fun z=>absurd rfl z⟩
  rintro _ g21 ⟨pp,m,cc,rfl,G,o21⟩
  have d21:=d8.old o21
  have hm:m=(wayR rs rs[i].id).1.length:=by have:=G.1; rw[u64I_len] at this; omega
  refine⟨_,_,_,rfl,fun q=>errB (o8.trans o21) (by rw[hdv,if_pos (by omega)]),fun q=>?_⟩
  rw[if_neg (by omega)] at hdv
  refine⟨_,_,_,_,d21.ldN,(copiedCur kr d21 T hn40).mono ?_⟩
  rintro _ g42 ⟨b,xs,rfl,hbl,hc,hnew,o42,F⟩
  refine⟨_,_,_,_,rfl,fun g47 e47=>?_⟩
  obtain⟨g48,k48,o48,u⟩:=F g47 e47
  have hxl:=cor_len hc
  refine⟨rfl,g48,k48,_,_,_,u.sl,fun i69 e69=>(deleteSpec kk.delete u.own (by omega) (by omega) hin (i64w e69 (by omega) (by omega) |>.trans (by omega))).mono ?_⟩
  rintro _ g71 ⟨⟨c',rfl⟩,nr71,w71⟩
  have lc71:=(nr71.2 _ u.lcb).trans u.loc
  obtain⟨g75,k75,nr75,lc75⟩:=st1K (v:=.slice (some ⟨b,0,none⟩) (n - 1) c') lc71 (i:=1) (by simp)
  have far1:∀r∈xs.eraseIdx i ++ [zeroR],∀a,r.dp=some a→g21.next≤a.block∧a.block≠g42.next:=fun r hr a ha=>by
   rcases mem_snoc.1 hr with hr | rfl
   ·have hm:=List.mem_of_mem_eraseIdx hr
    exact⟨hnew r hm a ha,(u.far r hm a ha).1⟩
   ·cases ha
  have lcb:=u.lcb
  have w75:=w71.temp (x:=g42.next) lcb (fun r hr a ha=>(far1 r hr a ha).2) nr75
  have d75:=(u.hd.near nr71 u.own.lo).near nr75 u.lcl
  obtain⟨pb',off',ep,hi'',hld', -,ok75⟩:=(T.1.old d75.o).at hin
  obtain⟨rfl,rfl⟩:pb=pb'∧off=off':=by injection ep with ep; injection ep with ep1 ep2; exact⟨ep1,ep2⟩
  refine⟨_,_,_,rfl,g75,k75,_,_,_,d75.sl,derefP_at ⟨by omega,by omega,_,_,_,_,_,_,_,_,_,_,_,_,_,by rw[Int.toNat_natCast]; exact hld',(copySpec kr.named0.copy ok75).mono ?_⟩⟩
  rintro _ g95 ⟨p',c'',rfl,ok95,G',o95⟩
  have hp' : ∀a,p'= some a→g75.next≤a.block∧a.block < g95.next:=fun a ha=>G'.block ha
  have d95:=d75.old o95
  have w95:=w75.old o95
  have lc75l:g42.next < g75.next:=by rw[nr75.1,nr71.1]; exact u.lch
  have lc95:=(o95.2 _ lc75l).trans lc75
  have m0:=d21.lt
  have m1:=d21.n0
  have m2:=o21.1
  have m3:=o8.1
  have m4:=o42.1
  have m5:=o48.1
  have m6:=o95.1
  have nf:g75.next=g48.next:=nr75.1.trans nr71.1
  have s1:=near_set g0.next g95 (.cells [.int .u64 nx,.slice (some ⟨b,0,none⟩) (n - 1) c'] 49 false)
  have cl:(g95.set g0.next (.cells [.int .u64 nx,.slice (some ⟨b,0,none⟩) (n - 1) c'] 49 false)).get g1.next=some (.cells (setC zeroR) 59 false):=by
   rw[s1.2 _ (by omega),o95.2 _ (by omega),nr75.2 _ (by omega),nr71.2 _ (by omega)]
   exact c2 (((o8.trans o21).trans o42).trans o48)
  have s2:=near_set g1.next (g95.set g0.next (.cells [.int .u64 nx,.slice (some ⟨b,0,none⟩) (n - 1) c'] 49 false)) (.cells (setC { rs[i] with dp:=p',dc:=c'' }) 59 false)
  have w1:=w95.temp (x:=g0.next) (by omega) (fun r hr a ha=>by have:=(far1 r hr a ha).1; omega) s1
  have w2:=w1.temp (x:=g1.next) (by omega) (fun r hr a ha=>by have:=(far1 r hr a ha).1; omega) s2
  have ok84:=(ok95.keep (by rw[s1.1]; exact Nat.le_refl _) fun a ha=>s1.2 _ (by have:=(hp' a ha).1; omega))
  have ok85:=(ok84.keep (by rw[s2.1]; exact Nat.le_refl _) fun a ha=>s2.2 _ (by have:=(hp' a ha).1; omega))
  have hel:n - 1=(xs.eraseIdx i).length:=by rw[List.length_eraseIdx_of_lt (by omega)]; omega
  exact⟨_,_,_,_,_,_,_,_,_,_,_,_,_,rfl,_,_,_,_,ldN_all lc95 rfl,rfl,_,stN_all d95.c1 rfl,rfl,_,stN_all cl rfl,ldN_all lc75 rfl,ldN_all lc95 rfl,_,_,_,_,ldN_all ((s2.2 _ (by omega)).trans (get_set_self _ _ _)) rfl,_,_,_,_,_,_,_,_,_,_,_,_,_,ldN_all (get_set_self _ _ _) rfl,⟨_,_,_,_,{ rs[i] with dp:=p',dc:=c'' },by rw[hdv]; rfl,by rw[hdv]; exact⟨rfl,_,w2.bookPre hel (by omega),erase_cor R hc hr⟩,ok85,by rw[hdv]; rfl⟩,near_old (near_old d95.o s1 (by omega)) s2 (by omega)⟩
end
end Go.Am
/-
 BOOKS:a snapshot is gone.
-/
set_option linter.unusedVariables false
set_option linter.unusedSimpArgs false
set_option maxRecDepth 100000
namespace Go.Am
open Go.Proofs
def ResL (o:Int×List SetR×List PtI×Int) (v:Value) (g:AH):Prop:=∃i p' n' c' pl nl cl,v=.tuple #[.agg #[.int .u64 i,.slice p' n' c'],.slice pl nl cl,.int .i64 o.2.2.2]∧BookR o.1 o.2.1 i p' n' g∧DL g pl nl o.2.2.1
theorem DL.nil (g:AH):DL g none 0 []:=⟨⟨rfl,.inl rfl⟩,fun q hq=>(by cases hq),rfl,.inl rfl⟩
theorem SetOk.dl {g:AH} {r:SetR} (k:SetOk g r):DL g r.dp r.dn r.dead:=⟨k.shows,k.dead,k.len,k.form⟩
theorem RecOk.dl {g:AH} {r:SetR} (k:RecOk g r) {p:Option Addr} {n c:Nat} {d:List PtI} (D:DL g p n d) (C:CutP Try.prog g 56 p n c) (hb:∀a,p=some a→a.block < g.next) (hn:n≤100000):RecOk g { r with dp:=p,dn:=n,dc:=c,dead:=d }:=
 ⟨⟨k.1.id,k.1.own,k.1.prev,k.1.stamp,k.1.root,D.wf,D.form,by have:reachBytes=140737488351232:=rfl; show n * 24≤_; omega,D.len,D.shows⟩,C,hb⟩
theorem DL.kept {g g' : AH} {p:Option Addr} {n:Nat} {l:List PtI} (d:DL g p n l) (hn:g.next≤g'.next) (k:∀a,p=some a→g'.get a.block=g.get a.block):DL g' p n l:=⟨d.shows.kept hn k,d.wf,d.len,d.form⟩
theorem RightP.flr0 {nx:Int} {rs:List SetR} (R:RightP nx rs) (id:Int):0≤flr rs id:=by
 unfold flr
 split
 ·exact Int.le_refl 0
 ·split
  ·exact Int.le_refl 0
  ·split
   ·exact Int.le_refl 0
   ·split
    ·exact Int.le_refl 0
    ·split
     ·exact Int.le_refl 0
     ·rename_i x hx
      rcases (R.ent (List.mem_of_getElem? hx)).2.2.2.2.2.2.2.2 with ⟨-,h, -⟩ | ⟨-,h, -⟩ <;> omega
def dropSnapA (nx:Int) (rs:List SetR) (lo:Option Nat) (ok:Bool):Int×List SetR×List PtI×Int:=if ok=false then (nx,rs,[],141) else match lo with
 | none=>(nx,rs,[],172)
 | some i=>match rs[i]? with
   | none=>(nx,rs,[],0)
   | some s=>if 0 < (clL rs s.id).length then (nx,rs,[],173) else match plcN rs (nextR rs s.id) with
     | none=>(nx,rs,[],172)
     | some j=>match rs[j]? with
       | none=>(nx,rs,[],0)
       | some z=>match mrg (oldD (flr rs s.id) z.dead) s.dead with
         | none=>(nx,rs,[],131)
         | some d=>if 4000 < d.length then (nx,rs,[],131) else (nx,(rs.map (dropF z s.prev d)).filter fun r=>!decide (r.id=s.id),yngD (flr rs s.id) z.dead,0)
structure KActs4 (K:Xs):Prop where
 a3:KActs3 K
 dropSnap:K 54=none
 clones:K 62=none
 hang:KHang K
 next:K 63=none
section
variable {K:Xs} {h:AH} {p:Option Addr} {n c:Nat} {rs:List SetR} {nx:Int}
theorem dropSnapSpec (kk:KActs4 K) (T:BookOk h p n rs) (R:RightP nx rs) (hn40:n≤1000) (f:ByteArray) (hf:f.size≤9223372036854775806) {A:Int×List SetR×List PtI×Int} (hA:A=dropSnapA nx rs (lookOf rs (spl f)) (snapOf (spl f)).isSome):
 Wf Try.prog K 54 [.agg #[.int .u64 nx,.slice p n c],.string f] h fun v h'=>ResL A v h'∧Old h h':=by
 refine vc_rule_DropSnap kk.dropSnap _ _ _ _ _ h _ fun g0 e0 g1 e1=>?_
 have kr:=kk.a3.a2.a.r
 have kp:=kk.a3.a2.a.fplace
 have n1:=next_of_alloc e1
 have n0:=next_of_alloc e0
 have d1:=HdB.of e0 e1
 have hn:=T.1.1
 have err:∀{g:AH} {e:Int},HdB h g0 g nx p n c→A=(nx,rs,[],e)→∀i p' n' c' g',BookR nx rs i p' n' g'→Old h g'→g.next≤g'.next→(∀y,y < g.next→y≠g0.next→g'.get y=g.get y)→ResL A (.tuple #[.agg #[.int .u64 i,.slice p' n' c'],.slice none 0 0,.int .i64 e]) g'∧Old h g':=fun d e i p' n' c' g' br o _ _=>⟨⟨i,p',n',c',none,0,0,by rw[e],by rw[e]; exact br,by rw[e]; exact DL.nil _⟩,o⟩
 refine (snapNameSpec kr f hf).mono ?_
 rintro _ g3 ⟨⟨a,b,ha,hs,hb,rfl⟩ | ⟨ha,rfl⟩,o3⟩
 ·have d3:=d1.old o3
  rw[ha,Option.isSome_some] at hA
  refine⟨_,_,_,rfl,fun _=>⟨_,_,_,_,d3.ldN,(namedRSpec kr (c:=c) (T.1.old d3.o) R f hf nx).mono ?_⟩,fun z=>absurd rfl z⟩
  rintro _ g12 ⟨rfl,o12⟩
  have d12:=d3.old o12
  cases hl:lookOf rs (spl f) with
  | none=>
    rw[hl] at hA
    exact⟨_,rfl,fun _=>errK kr d12 T hn40 (err d12 (by rw[hA]; rfl)),fun z=>absurd (by rw[placeI_none]; decide) z⟩
  | some i=>
    obtain⟨v,hr⟩:=lookOf_at hl
    rw[hl] at hA
    obtain⟨hi,rfl⟩:=List.getElem?_eq_some_iff.1 hr
    rw[placeI_some]
    have hin:i < n:=by omega
    have T12:=T.1.old d12.o
    obtain⟨pb,off,rfl,hi',hld,hld1,ok⟩:=T12.at hin
    have ldf:∀{g:AH},Old h g→∀(j:Nat) v,(setC rs[i])[j]?= some v→ld1 g pb (off+i * 11+j)=some v:=fun {g} o=>by
     obtain⟨pb',off',ep,hq', -,k, -⟩:=(T.1.old o).at hin
     obtain⟨rfl,rfl⟩:pb=pb'∧off=off':=by injection ep with ep; injection ep with ep1 ep2; exact⟨ep1,ep2⟩
     exact k
    unfold dropSnapA at hA
    rw[if_neg (by decide)] at hA
    simp only at hA
    rw[hr] at hA
    simp only at hA
    refine⟨_,rfl,fun z=>absurd z (by omega),fun _=>⟨_,_,_,d12.sl,derefP_at ⟨by omega,by omega,_,_,_,d12.sl,_,by rw[Int.toNat_natCast]; exact hld1 0 _ rfl,(clonesSpec kk.clones kk.hang T12 hn40 rs[i].id).mono ?_⟩⟩⟩
    rintro _ g39 ⟨pp,m,cc,rfl,Gc,o39⟩
    have d39:=d12.old o39
    have hm:m=(clL rs rs[i].id).length:=by have:=Gc.1; rw[u64I_len] at this; omega
    refine⟨_,_,_,rfl,fun q=>errK kr d39 T hn40 (err d39 (by rw[hA,if_pos (by omega)])),fun q=>⟨_,_,_,d39.sl,_,by rw[Int.toNat_natCast]; exact ldf d39.o 0 _ rfl,(nextSpec kk.next kk.hang (T.1.old d39.o) rs[i].id).mono ?_⟩⟩
    rw[if_neg (by omega)] at hA
    rintro _ g63 ⟨rfl,o63⟩
    have d63:=d39.old o63
    refine⟨_,rfl,_,_,_,d63.sl,(placeRSpec kr (T.1.old d63.o) (nextR rs rs[i].id)).mono ?_⟩
    rintro _ g69 ⟨rfl,o69⟩
    have d69:=d63.old o69
    refine⟨_,rfl,d39.sl,d63.sl,fun q=>?_,fun q=>?_⟩
    ·cases hj:plcN rs (nextR rs rs[i].id) with
     | some j=>rw[plc_some hj] at q; exact absurd q (by omega)
     | none=>exact errK kr d69 T hn40 (err d69 (by rw[hA,hj]))
    ·cases hj:plcN rs (nextR rs rs[i].id) with
     | none=>rw[plc_none hj] at q; exact absurd (by decide) q
     | some j=>
       rw[plc_some hj]
       obtain⟨hjl, -⟩:=plcN_at hj
       have hjn:j < n:=by omega
       rw[hj] at hA
       simp only at hA
       have hz:rs[j]?= some rs[j]:=List.getElem?_eq_getElem hjl
       rw[hz] at hA
       simp only at hA
       refine⟨_,_,_,d69.sl,_,by rw[Int.toNat_natCast]; exact ldf d69.o 0 _ rfl,(floorSpec kk.a3.a2.a.floor kp (T.1.old d69.o) rs[i].id).mono ?_⟩
       rintro _ g91 ⟨rfl,rfl⟩
       obtain⟨pb',off',ep,hq', -,hldz,okz⟩:=(T.1.old d69.o).at hjn
       obtain⟨rfl,rfl⟩:pb=pb'∧off=off':=by injection ep with ep; injection ep with ep1 ep2; exact⟨ep1,ep2⟩
       have ez:=R.ent (List.getElem_mem hjl)
       have es:=R.ent (List.getElem_mem hi)
       have dz:=ez.2.2.2.2.2.2.1
       have ds:=es.2.2.2.2.2.2.1
       have hldz10:ld1 g69 pb (off+j * 11+10)=some (.slice rs[j].dp rs[j].dn rs[j].dc):=hldz 10 _ rfl
       refine⟨_,rfl,_,_,_,d69.sl,derefP_at ⟨by omega,by omega,_,_,_,by rw[Int.toNat_natCast]; exact hldz10,(splitDSpec kr.dead okz.dl (by omega) (R.flr0 _)).mono ?_⟩⟩
       rintro _ g102 ⟨⟨p1,m1,c1,p2,m2,c2,rfl,G1,G2⟩,o102⟩
       have d102:=d69.old o102
       have D1:=GrowD G1 (fun q hq=>okz.dead q (List.mem_filter.1 hq).1)
       have D2:=GrowD G2 (fun q hq=>okz.dead q (List.mem_filter.1 hq).1)
       have hm1:m1≤4000:=by
        rw[D1.len]
        have:(oldD (flr rs rs[i].id) rs[j].dead).length≤rs[j].dead.length:=List.length_filter_le _ _
        have:=okz.len
        omega
       have ks:=(T.2 _ (List.getElem_mem hi)).old d102.o
       refine⟨_,_,_,_,_,_,rfl,d69.sl,d69.sl,by rw[Int.toNat_natCast]; exact hldz10,by rw[Int.toNat_natCast]; exact hldz10,_,_,_,by rw[Int.toNat_natCast]; exact ldf d102.o 10 _ rfl,(mergeSpec kr.dead D1 (G1.cutQ (by simp only[openCap]; omega)) (fun a ha=>(G1.block ha).2) ks.1.dl ks.2.1 ks.2.2 (by omega) (by omega)).mono ?_⟩
       rintro _ g113 ⟨⟨d,p3,m3,c3,hmr,rfl,D3,C3,b3⟩ | ⟨hmr,rfl⟩,o113⟩
       ·have d113:=d102.old o113
        rw[hmr] at hA
        simp only at hA
        have l3:=D3.len
        refine⟨_,_,_,_,rfl,fun _=>⟨fun q=>errK kr d113 T hn40 (err d113 (by rw[hA,if_pos (by omega)])),fun q=>⟨_,_,_,_,d113.ldN,(copiedCur kr d113 T hn40).mono ?_⟩⟩,fun z=>absurd rfl z⟩
        rw[if_neg (by omega)] at hA
        rintro _ g138 ⟨b0,xs,rfl,hbl,hc,hnew,o138,F⟩
        refine⟨_,_,_,_,rfl,fun g143 e143=>?_⟩
        obtain⟨g144,k144,o144,u⟩:=F g143 e143
        have hxl:=cor_len hc
        have hjx:j < xs.length:=by omega
        have hxm:=List.getElem_mem hjx
        have m0:=d102.lt
        have m69:=d69.lt
        have m01:=d102.n0
        have m4:=o113.1
        have m5:=o138.1
        have m6:=o144.1
        have o113144:=o138.trans o144
        obtain⟨g151,k151,nr151,u151⟩:=u.st1 (i:=j) (k:=10) (v:=.slice p3 m3 c3) (r':={ xs[j] with dp:=p3,dn:=m3,dc:=c3,dead:=d }) hjx (by omega) rfl ((u.own.recs _ hxm).1.dl (D3.old o113144) (C3.old o113144 fun a ha=>(b3 a ha).2) (fun a ha=>by have:=(b3 a ha).2; omega) (by omega)) fun a ha=>by
         have:=b3 a ha
         omega
        have hjx2:j < (xs.set j { xs[j] with dp:=p3,dn:=m3,dc:=c3,dead:=d }).length:=by simpa using hjx
        have hge:(xs.set j { xs[j] with dp:=p3,dn:=m3,dc:=c3,dead:=d })[j]'hjx2={ xs[j] with dp:=p3,dn:=m3,dc:=c3,dead:=d }:=List.getElem_set_self ..
        have hxm2:=List.getElem_mem hjx2
        have rk:=(u151.own.recs _ hxm2).1.prev (pr:=rs[i].prev) ok.prev
        have ra:=(u151.own.recs _ hxm2).2
        have rf:=u151.far _ hxm2
        rw[hge] at rk ra rf
        obtain⟨g157,k157,nr157,u157⟩:=u151.st1 (i:=j) (k:=4) (v:=.int .u64 rs[i].prev) (r':={ xs[j] with dp:=p3,dn:=m3,dc:=c3,dead:=d,prev:=rs[i].prev }) hjx2 (by omega) (by rw[hge]; rfl) rk fun a ha=>⟨ra a ha,rf a ha⟩
        refine⟨rfl,g144,k144,_,_,_,u.sl,_,by rw[Int.toNat_natCast]; exact ldf u.hd.o 4 _ rfl,derefP_at ⟨by omega,by omega,g151,k151,_,_,_,u151.sl,derefP_at ⟨by omega,by omega,g157,k157,u.sl,u151.sl,_,_,_,u157.sl,fun i161 e161=>?_⟩⟩⟩
        have hxs:=u157.own
        rw[List.set_set] at hxs u157
        generalize hys:xs.set j { xs[j] with dp:=p3,dn:=m3,dc:=c3,dead:=d,prev:=rs[i].prev }= ys at *
        have hyl:ys.length=xs.length:=by rw[←hys]; simp
        have hyc:ys.map cor=(rs.map (dropF rs[j] rs[i].prev d)).map cor:=by
         rw[←hys]
         refine set_map R hc hz (fun r _ hne=>dropF_ne hne _ _) ?_
         rw[dropF_self]
         obtain⟨y,hy,hcy⟩:=cor_at hc (List.getElem?_eq_getElem hjx)
         rw[hz] at hy
         cases hy
         have q:=cor_eq hcy
         exact cor_mk ⟨q.1,q.2.1,q.2.2.1,q.2.2.2.1,rfl,q.2.2.2.2.2.1,q.2.2.2.2.2.2.1,q.2.2.2.2.2.2.2.1,l3,rfl⟩
        refine (deleteSpec kk.a3.delete hxs (by omega) (by omega) hin (i64w e161 (by omega) (by omega) |>.trans (by omega))).mono ?_
        rintro _ g163 ⟨⟨c',rfl⟩,nr163,w163⟩
        have lc163:=(nr163.2 _ u157.lcb).trans u157.loc
        obtain⟨g167,k167,nr167,lc167⟩:=st1K (v:=.slice (some ⟨b0,0,none⟩) (n - 1) c') lc163 (i:=1) (by simp)
        have far1:∀r∈ys.eraseIdx i ++ [zeroR],∀a,r.dp=some a→a.block≠g138.next∧a.block≠g0.next:=fun r hr a ha=>by
         rcases mem_snoc.1 hr with hr | rfl
         ·exact u157.far r (List.mem_of_mem_eraseIdx hr) a ha
         ·cases ha
        have w167:=w163.temp (x:=g138.next) u157.lcb (fun r hr a ha=>(far1 r hr a ha).1) nr167
        have d167:=(u157.hd.near nr163 u157.own.lo).near nr167 u157.lcl
        have ob:=u157.own.lo
        have oc:=u157.lcl
        have hl167:g0.next < g167.next:=by have:=d167.lt; have:=d167.n0; omega
        have hel:n - 1=(ys.eraseIdx i).length:=by rw[List.length_eraseIdx_of_lt (by omega)]; omega
        refine⟨_,_,_,rfl,g167,k167,_,_,_,_,ldN_all lc167 rfl,rfl,retK hl167 d167.c1 rfl fun g' nr=>?_⟩
        have D2' : DL g144 p2 m2 (yngD (flr rs rs[i].id) rs[j].dead):=(D2.old o113).old o113144
        have D2'' : DL g' p2 m2 (yngD (flr rs rs[i].id) rs[j].dead):=D2'.kept (by rw[nr.1,nr167.1,nr163.1,nr157.1,nr151.1]; exact Nat.le_refl _) fun a ha=>by
         have hb2:=G2.block ha
         rw[nr.2 _ (by omega),nr167.2 _ (by omega),nr163.2 _ (by omega),nr157.2 _ (by omega),nr151.2 _ (by omega)]
        have w':=w167.temp (x:=g0.next) (by omega) (fun r hr a ha=>(far1 r hr a ha).2) nr
        have hfin:(ys.eraseIdx i).map cor=((rs.map (dropF rs[j] rs[i].prev d)).filter fun r=>!decide (r.id=rs[i].id)).map cor:=by
         have ord:(rs.map (dropF rs[j] rs[i].prev d)).Pairwise fun a b=>a.id < b.id:=by
          rw[List.pairwise_map]
          exact R.fam.ord.imp fun {a b} q=>by rw[(dropF_id rs[j] rs[i].prev d a).1,(dropF_id rs[j] rs[i].prev d b).1]; exact q
         have hri:(rs.map (dropF rs[j] rs[i].prev d))[i]?= some (dropF rs[j] rs[i].prev d rs[i]):=by rw[List.getElem?_map,hr]; rfl
         have he:=erase_filter ord hri
         rw[(dropF_id rs[j] rs[i].prev d rs[i]).1] at he
         skip
         rw[←he,map_erase,map_erase,hyc]
        exact⟨⟨_,_,_,_,_,_,_,by rw[hA],by rw[hA]; exact⟨rfl,_,w'.bookPre hel (by omega),hfin⟩,by rw[hA]; exact D2''⟩,near_old d167.o nr (by omega)⟩
       ·have d113:=d102.old o113
        rw[hmr] at hA
        exact⟨_,_,_,_,rfl,fun z=>absurd z (by decide),fun _=>errK kr d113 T hn40 (err d113 (by rw[hA]))⟩
 ·rw[ha] at hA
  exact⟨_,_,_,rfl,fun z=>absurd z (by decide),fun _=>errK kr (d1.old o3) T hn40 (err (d1.old o3) (by rw[hA]; rfl))⟩
end
end Go.Am
/-
 BOOKS:what a tree has no more.
-/
set_option linter.unusedVariables false
set_option linter.unusedSimpArgs false
set_option maxRecDepth 100000
namespace Go.Am
open Go.Proofs
theorem killD_gone {fl:Int} {q:PtI} {l d g:List PtI} (h:fl < q.2.1):killD fl (q :: l) d g=killD fl l d (g ++ [q]):=by
 conv=>lhs; unfold killD
 rw[if_pos h]
theorem killD_none {fl:Int} {q:PtI} {l d g:List PtI} (h:¬fl < q.2.1) (e:addD d q=none):killD fl (q :: l) d g=none:=by
 unfold killD
 rw[if_neg h,e]
theorem killD_many {fl:Int} {q:PtI} {l d g d' : List PtI} (h:¬fl < q.2.1) (e:addD d q=some d') (hl:4000 < d'.length):killD fl (q :: l) d g=none:=by
 unfold killD
 rw[if_neg h,e]
 exact if_pos hl
theorem killD_keep {fl:Int} {q:PtI} {l d g d' : List PtI} (h:¬fl < q.2.1) (e:addD d q=some d') (hl:¬4000 < d'.length):killD fl (q :: l) d g=killD fl l d' g:=by
 conv=>lhs; unfold killD
 rw[if_neg h,e]
 exact if_neg hl
theorem killD_nil (fl:Int) (d g:List PtI):killD fl [] d g=some (d,g):=by unfold killD; rfl
noncomputable def killA (nx:Int) (rs:List SetR) (id:Int) (l:List PtI):Int×List SetR×List PtI×Int:=match plcN rs id with
 | none=>(nx,rs,[],172)
 | some i=>match rs[i]? with
   | none=>(nx,rs,[],0)
   | some v=>match killD (flr rs id) l v.dead [] with
     | none=>(nx,rs,[],131)
     | some (d,g)=>(nx,rs.map (dropF v v.prev d),g,0)
section
variable {h g0 g:AH} {bn:Int} {p:Option Addr} {n c lc b:Nat} {nx:Int} {m c' : Nat} {xs:List SetR}
theorem Bkc.fr {g' : AH} {L:Nat} (u:Bkc h g0 g bn p n c lc b nx m c' xs) (o:OldB L g g') (h1:lc < L) (h2:b < L) (h3:h.next+2≤L) (hd:∀r∈xs,∀a,r.dp=some a→g'.get a.block=g.get a.block):Bkc h g0 g' bn p n c lc b nx m c' xs:=by
 have n0:=u.hd.n0
 exact⟨⟨⟨Nat.le_trans u.hd.o.1 o.1,fun y hy=>(o.2 y (by omega)).trans (u.hd.o.2 y hy)⟩,u.hd.n0,Nat.le_trans u.hd.lt o.1,(o.2 _ (by omega)).trans u.hd.c0,(o.2 _ (by omega)).trans u.hd.c1⟩,⟨u.own.lo,Nat.lt_of_lt_of_le u.own.hi o.1,(o.2 _ h2).trans u.own.get,fun r hr=>⟨(u.own.recs r hr).1.kept o.1 fun a ha=>hd r hr a ha,(u.own.recs r hr).2⟩⟩,(o.2 _ h1).trans u.loc,u.lcl,Nat.lt_of_lt_of_le u.lch o.1,u.lcb,u.far,u.ml⟩
end
structure KActs5 (K:Xs):Prop where
 a4:KActs4 K
section
variable {K:Xs} {h:AH} {p:Option Addr} {n c:Nat} {rs:List SetR} {nx:Int}
end
end Go.Am
