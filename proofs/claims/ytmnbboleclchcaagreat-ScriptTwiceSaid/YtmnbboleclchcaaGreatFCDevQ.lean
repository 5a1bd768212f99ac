/-
  Texts of this proof, part 29. No condition.
-/
import Derived.Test.YtmnbboleclchcaaGreatFTc24
import Derived.Test.YtmnbboleclchcaaGreatProg
set_option linter.unusedVariables false
set_option linter.unusedSimpArgs false
set_option maxRecDepth 100000
namespace Go.Am
open Go.Proofs
def U8 (v:Value):Prop:=∃k:Int,v=.int .u8 k/\0<=k/\k<=255
def U8s (l:List Value):Prop:=∀v∈l,U8 v
theorem U8s.app {a b:List Value} (h:U8s a) (k:U8s b):U8s (a ++ b):=λv hv=>(QI.1 hv).elim (h v) (k v)
theorem U8s.take {a:List Value} (h:U8s a) (n:Nat):U8s (a.take n):=λv hv=>h v (by grind)
theorem U8s.drop {a:List Value} (h:U8s a) (n:Nat):U8s (a.drop n):=λv hv=>h v (by grind)
theorem U8s.zero (n:Nat):U8s (List.replicate n (.int .u8 0)):=λv hv=>by rw[List.eq_of_mem_replicate hv]; exact⟨0,rfl,by omega,by omega⟩
def PQ (n:Nat) (pcs:List Value) (pn:Nat):Prop:=pcs.length=pn * 129/\∀i,i < pn->(∃x:Nat,x < n/\pcs[i * 129]?= some (.int .i64 (x:Int)))/\U8s ((pcs.drop (i * 129+1)).take 128)
structure Dd where
 bs:Nat
 bn:Nat
 pp:Option Addr
 pn:Nat
 pc:Nat
 ops:Int
 lf:Int
 dd:Bool
 pcs:List Value
 st:List Value
 nw:List Value
def Dd.cells (n:Nat) (x:Dd):List Value:=[.slice (some ⟨x.bs,0,none⟩) n n,.slice (some ⟨x.bn,0,none⟩) n n,.slice x.pp x.pn x.pc,.int .i64 x.ops,.int .i64 x.lf,.bool x.dd]
def Dd.bk (d:Nat) (x:Dd):List Nat:=[d,x.bs,x.bn] ++ bl x.pp
structure DV (h:AH) (d n:Nat) (x:Dd):Prop where
 hd:h.get d=some (.cells (x.cells n) 79 false)
 hs:h.get x.bs=some (.cells x.st 41 false)
 ls:x.st.length=n * 128
 us:U8s x.st
 hn:h.get x.bn=some (.cells x.nw 41 false)
 ln:x.nw.length=n * 128
 un:U8s x.nw
 gr:zbB 0 h 125 129 x.pp x.pn x.pc x.pcs
 pq:PQ n x.pcs x.pn
 nd:(x.bk d).Nodup
 lt:∀c∈x.bk d,c < h.next
section
variable {K:Xs} {h:AH} {d n:Nat} {x:Dd}
theorem zbB.same {h h' : AH} {elem sz:Nat} {p:Option Addr} {n c:Nat} {cs:List Value} (g:zbB 0 h elem sz p n c cs) (hn:h.next<=h'.next) (hg:∀b∈bl p,h'.get b=h.get b):zbB 0 h' elem sz p n c cs:=by
 refine⟨g.1,?_⟩
 rcases g.2 with z | ⟨b,hp,hl,hb,hgb,hc⟩
 all_goals grind[bl]
theorem DV.same (D:DV h d n x) {h' : AH} (hn:h.next<=h'.next) (hg:∀c∈x.bk d,h'.get c=h.get c):DV h' d n x where
 hd:=by grind[Dd.bk,hd]
 hs:=by grind[Dd.bk,hs]
 ls:=D.ls
 us:=D.us
 hn:=by grind[Dd.bk,hn]
 ln:=D.ln
 un:=D.un
 gr:=D.gr.same hn λb hb=>hg b (by grind[Dd.bk])
 pq:=D.pq
 nd:=D.nd
 lt:=λc hc=>Qi (D.lt c hc) hn
theorem DV.ne (D:DV h d n x):d≠x.bs/\d≠x.bn/\x.bs≠x.bn/\∀b∈bl x.pp,b≠d/\b≠x.bs/\b≠x.bn:=by
 have nd:=D.nd
 grind[Dd.bk]
theorem DV.setd (D:DV h d n x) (ops lf:Int) (dd:Bool):DV (h.set d (.cells (({ x with ops:=ops,lf:=lf,dd:=dd }:Dd).cells n) 79 false)) d n { x with ops:=ops,lf:=lf,dd:=dd }:=by
 obtain⟨n1,n2,n3,n4⟩:=D.ne
 exact⟨zaf _ _ _,by grind[zal,hs],D.ls,D.us,by grind[zal,hn],D.ln,D.un,D.gr.same (Qc _) λb hb=>zal (n4 b hb).1,D.pq,D.nd,D.lt⟩
theorem DV.mem (x:Dd):d∈x.bk d:=by simp[Dd.bk]
theorem zwK (hk:K 47=none) (D:DV h d n x) (i:Int):Wf Tryz.prog K 47 [ptr d 0,.int .i64 i] h λv h'=>v=.bool (decide (0<=i/\i < n))/\h=h':=
 ziJ hk _ _ h _ ⟨λq=>zaa ⟨_,_,_,zah D.hd rfl,by grind,by grind⟩,by grind⟩
theorem zzT (hk:K 42=none) (D:DV h d n x):Wf Tryz.prog K 42 [ptr d 0] h λv h'=>v=.int .i64 n/\h=h':=
 ziI hk _ h _ (zaa ⟨_,_,_,zah D.hd rfl,rfl,rfl⟩)
theorem zxU (hk:K 68=none) (D:DV h d n x):Wf Tryz.prog K 68 [ptr d 0] h λv h'=>v=.bool x.dd/\h=h':=by
 refine zha hk _ h _ (zaa ?_)
 have:=zah (off:=5) D.hd rfl
 simp_all
def zso (d n:Nat) (x:Dd) (h h' : AH):Prop:=∃ops lf dd,DV h' d n { x with ops:=ops,lf:=lf,dd:=dd }/\zaZ d h h'
theorem zso.refl (D:DV h d n x):zso d n x h h:=⟨x.ops,x.lf,x.dd,D,zaZ.refl _ _⟩
theorem DV.numq (D:DV h d n x) (ops lf:Int) (dd:Bool):zso d n x h (h.set d (.cells (({ x with ops:=ops,lf:=lf,dd:=dd }:Dd).cells n) 79 false)):=⟨ops,lf,dd,D.setd ops lf dd,zam _ _ _⟩
theorem znT (hk:K 176=none) (D:DV h d n x):Wf Tryz.prog K 176 [ptr d 0] h λv h'=>zso d n x h h'/\v=.tuple #[]:=
 zgv hk _ h _ (zaa ⟨x.ops,zah D.hd rfl,λq=>zaa ⟨x.ops,zah D.hd rfl,λi e=>zaa ⟨_,zaN D.hd (by simp[Dd.cells]),D.numq i x.lf x.dd,rfl⟩⟩,by grind[zso.refl]⟩)
theorem zwL (hk:K 28=none) (D:DV h d n x) (i:Int):Wf Tryz.prog K 28 [ptr d 0,.int .i64 i] h λv h'=>zso d n x h h'/\v=.tuple #[]:=
 zgr hk _ _ h _ λj e=>zaa ⟨_,zaN D.hd (by simp[Dd.cells]),D.numq x.ops j x.dd,rfl⟩
theorem zsp (hk:K 177=none) (D:DV h d n x):Wf Tryz.prog K 177 [ptr d 0] h λv h'=>zso d n x h h'/\∃b,v=.bool b:=by
 refine zgw hk _ h _ (zaa ⟨x.lf,zah D.hd rfl,λq=>?_,λq=>?_⟩)
 ·exact zaa ⟨_,zaN D.hd (by simp[Dd.cells]),zaa (.inl ⟨zah (zaf _ _ _) rfl,D.numq x.ops x.lf true,_,rfl⟩)⟩
 ·have:=zah (off:=5) D.hd rfl
  refine zaa ?_
  cases hb:x.dd <;> rw[hb] at this
  ·exact .inr ⟨this,zaa ⟨x.lf,zah D.hd rfl,λq2=>zaa ⟨x.lf,zah D.hd rfl,λi e=>zaa ⟨_,zaN D.hd (by simp[Dd.cells]),D.numq x.ops i x.dd,_,rfl⟩⟩,by grind[zso.refl]⟩⟩
  grind[zso.refl]
theorem zxV:zbA Tryz.prog 41 #[]=some (.agg (List.replicate 128 (Value.int .u8 0)).toArray):=by kernel_rfl
theorem zso.fr {h h' : AH} (q:zso d n x h h'):∃x' : Dd,x'.pn=x.pn/\DV h' d n x'/\Fr (x.bk d) h h' (x'.bk d):=by
 obtain⟨ops,lf,dd,D,hn⟩:=q
 exact⟨{ x with ops:=ops,lf:=lf,dd:=dd },rfl,D,hn.fr (DV.mem x)⟩
theorem DV.old (D:DV h d n x) {h' : AH} (o:Old h h'):DV h' d n x:=D.same o.1 λc hc=>o.2 c (D.lt c hc)
theorem zxW (hk:K 179=none) (h1:K 176=none) (h2:K 47=none) (D:DV h d n x) (i:Int):
 Wf Tryz.prog K 179 [ptr d 0,.int .i64 i] h λv h'=>∃(x' : Dd) (l:List Value) (e:Int),x'.pn=x.pn/\DV h' d n x'/\Fr (x.bk d) h h' (x'.bk d)/\l.length=128/\U8s l/\(e=0\/e=41\/e=42)/\v=.tuple #[.agg l.toArray,.int .i64 e]:=by
 refine zhb hk _ _ h _ λh0 e0=>?_
 have o0:Old h h0:=by grind[za2]
 have hnF:h.next∉x.bk d:=λq=>absurd (D.lt _ q) (Q9 _)
 have hg0:h0.get h.next=some (.cells (List.replicate 128 (.int .u8 0)) 41 false):=by grind[zan]
 refine (znT h1 (D.old o0)).mono ?_
 rintro _ g2 ⟨⟨ops,lf,dd,D2,n2⟩, -⟩
 have hne:h.next≠d:=by grind[DV.mem]
 have hg2:g2.get h.next=some (.cells (List.replicate 128 (.int .u8 0)) 41 false):=by rw[n2.2 _ hne,hg0]
 have fin:∀{vs:List Value} {e:Int},vs.length=128->U8s vs->(e=0\/e=41\/e=42)->∃g3,stN g2 h.next 0 vs=some g3/\∃l9,ldN g3 h.next 0 128=some l9/\∃(x' : Dd) (l:List Value) (e' : Int),x'.pn=x.pn/\DV g3 d n x'/\Fr (x.bk d) h g3 (x'.bk d)/\l.length=128/\U8s l/\(e'= 0\/e'= 41\/e'= 42)/\Value.tuple #[.agg l9.toArray,.int .i64 e]=.tuple #[.agg l.toArray,.int .i64 e']:=by
  intro vs e hvs hu he
  refine⟨_,zaR hg2 (by grind),vs,by grind[zaw,zaf],{ x with ops:=ops,lf:=lf,dd:=dd },vs,e,rfl,D2.same (Qc _) λc hc=>zal (λq=>by subst q; exact hnF hc),?_,hvs,hu,he,rfl⟩
  have f:=(o0.fr (x.bk d)).trans (n2.fr (DV.mem x))
  exact⟨f.1,λc hc hn=>by rw[zal (by omega)]; exact f.2.1 c hc hn,λc hc=>.inl hc⟩
 have ln2:x.nw.length=n * 128:=D.ln
 refine (zwK h2 D2 i).mono ?_
 rintro _ g ⟨rfl,rfl⟩
 by_cases q:0<=i/\i < n
 ·refine .inl ⟨by grind,zaa ?_⟩
  have hdd:=zah (off:=5) D2.hd rfl
  cases dd with
  | true=>
    refine .inl ⟨hdd,_,zxV,by simp,?_⟩
    exact fin (by simp) (U8s.zero _) (.inr (.inr rfl))
  | false=>
    refine .inr ⟨hdd,zaa ⟨_,_,_,zah D2.hd rfl,zaa ⟨q.1,q.2,_,zh8 D2.hn (by grind),?_,?_⟩⟩⟩
    ·grind
    ·exact fin (by grind) ((D2.un.drop _).take _) (.inl rfl)
 ·refine .inr ⟨by grind,_,zxV,by simp,?_⟩
  exact fin (by simp) (U8s.zero _) (.inr (.inl rfl))
end
theorem PQ.push {n pn:Nat} {pcs:List Value} (p:PQ n pcs pn) {x:Nat} (hx:x < n) {l:List Value} (hl:l.length=128) (hu:U8s l):PQ n (pcs ++ (.int .i64 (x:Int) :: l)) (pn+1):=by
 refine⟨by rw[Qs,p.1,QF,hl]; omega,λi hi=>?_⟩
 by_cases q:i < pn
 ·obtain⟨⟨y,hy,h1⟩,h2⟩:=p.2 i q
  refine⟨by grind,?_⟩
  rw[QL,List.take_append,Q3,p.1]
  refine U8s.app h2 ?_
  rw[show 128 - (pn * 129 - (i * 129+1))=0 by omega,List.take_zero]
  exact λv hv=>by grind
 ·obtain rfl:i=pn:=by omega
  refine⟨⟨x,hx,by rw[Qu (by rw[p.1]; omega),p.1,Nat.sub_self]; rfl⟩,?_⟩
  rw[QL,QH (by rw[p.1]; omega),QR,p.1,show i * 129+1 - i * 129=1 by omega]
  grind
theorem zAM:zao Tryz.prog 125=some ((.int .i64 0) :: List.replicate 128 (.int .u8 0)):=by kernel_rfl
theorem zBX (x:Int) {l:List Value} (hl:l.length=128):zbA Tryz.prog 125 #[(0,.int .i64 x),(1,.agg l.toArray)]=some (.agg (.int .i64 x :: l).toArray):=by
 refine zl1 zAM (pl:=[(0,1),(1,128)]) (by kernel_rfl) (by rfl) ?_
 grind[zdd,Value.cells]
section
variable {K:Xs} {h:AH} {d n:Nat} {x:Dd}
theorem U8s.upd {a l:List Value} (h:U8s a) (hl:U8s l) (off m:Nat):U8s (a.take off ++ l ++ a.drop m):=(by grind[take,app,drop])
theorem DV.setn (D:DV h d n x) {cs:List Value} (hl:cs.length=n * 128) (hu:U8s cs):DV (h.set x.bn (.cells cs 41 false)) d n { x with nw:=cs }:=by
 obtain⟨n1,n2,n3,n4⟩:=D.ne
 exact⟨by rw[zal n2]; exact D.hd,by grind[zal,hs],D.ls,D.us,zaf _ _ _,hl,hu,D.gr.same (Qc _) λb hb=>zal (n4 b hb).2.2,D.pq,D.nd,D.lt⟩
theorem DV.sets (D:DV h d n x) {cs:List Value} (hl:cs.length=n * 128) (hu:U8s cs):DV (h.set x.bs (.cells cs 41 false)) d n { x with st:=cs }:=by
 obtain⟨n1,n2,n3,n4⟩:=D.ne
 exact⟨by rw[zal n1]; exact D.hd,zaf _ _ _,hl,hu,by grind[zal,hn],D.ln,D.un,D.gr.same (Qc _) λb hb=>zal (n4 b hb).2.1,D.pq,D.nd,D.lt⟩
theorem Fr.set {F F' : List Nat} {h g:AH} (f:Fr F h g F') {b:Nat} (hb:b∈F) (o:zca):Fr F h (g.set b o) F':=
 ⟨f.1,λc hc hn=>by rw[zal (by grind)]; exact f.2.1 c hc hn,f.2.2⟩
theorem zwM (hk:K 115=none) (h1:K 176=none) (h2:K 47=none) (h3:K 177=none) (D:DV h d n x) (hW:x.pn < 1000000000) (i:Int) {s:List Value} (hsl:s.length=128) (hu:U8s s):
 Wf Tryz.prog K 115 [ptr d 0,.int .i64 i,.agg s.toArray] h λv h'=>∃(x' : Dd) (e:Int),x'.pn<=x.pn+1/\DV h' d n x'/\Fr (x.bk d) h h' (x'.bk d)/\(e=0\/e=41\/e=42)/\v=.int .i64 e:=by
 refine zgu hk _ _ _ h _ λh0 e0=>?_
 have o0:Old h h0:=by grind[za2]
 have hnF:h.next∉x.bk d:=λq=>absurd (D.lt _ q) (Q9 _)
 have hg0:h0.get h.next=some (.cells s 41 false):=by grind[zan]
 refine (znT h1 (D.old o0)).mono ?_
 rintro _ g2 ⟨⟨ops,lf,dd,D2,n2⟩, -⟩
 have hne:h.next≠d:=by grind[DV.mem]
 have hg2:g2.get h.next=some (.cells s 41 false):=by rw[n2.2 _ hne,hg0]
 have f2:=(o0.fr (x.bk d)).trans (n2.fr (DV.mem x))
 refine (zwK h2 D2 i).mono ?_
 rintro _ g ⟨rfl,rfl⟩
 by_cases q:0<=i/\i < n
 rotate_left
 ·exact .inr ⟨by grind,{ x with ops:=ops,lf:=lf,dd:=dd },41,Qw _,D2,f2,.inr (.inl rfl),rfl⟩
 refine .inl ⟨by grind,(zsp h3 D2).mono ?_⟩
 rintro _ g6 ⟨⟨ops3,lf3,dd3,D3,n3⟩,b,rfl⟩
 have f3:=f2.trans (n3.fr (DV.mem x))
 have hg6:g6.get h.next=some (.cells s 41 false):=by rw[n3.2 _ hne,hg2]
 cases b with
 | false=>exact .inr ⟨rfl,{ x with ops:=ops3,lf:=lf3,dd:=dd3 },42,Qw _,D3,f3,.inr (.inr rfl),rfl⟩
 | true=>
 refine .inl ⟨rfl,zaa ⟨x.pp,x.pn,x.pc,zah D3.hd rfl,s,zaw hg6 hsl,_,zBX _ hsl,_,_,_,_,zeG (elem:=125) (by':=136) (sz:=129) (zaW (by kernel_rfl)) zAM rfl (by omega) (by grind),?_⟩⟩
 obtain⟨N,rfl⟩:∃N:Nat,i=N:=⟨i.toNat,by omega⟩
 have hN:N < n:=by omega
 have hn6:h.next < g6.next:=by rw[n3.1,n2.1,e0]; simp
 obtain⟨p',c',h5,ha,hgr,hob,hap,hfr⟩:=D3.gr.push (zaW (P:=Tryz.prog) (st:=77) (by':=136) (by kernel_rfl)) (Qg _) (ns:=.int .i64 N :: s) (m:=1) (h4:=g6.alloc (.cells (.int .i64 N :: s) 125 false)) rfl (by grind) (by grind[zaA]) (by grind)
 obtain⟨b',rfl,hb'⟩:=hfr (by omega)
 obtain⟨k1,k2,k3,k4⟩:=D3.ne
 simp only at k1 k2 k3 k4
 have hap' : ∀c,c < g6.next->c∉bl x.pp->h5.get c=g6.get c:=λc hc hn=>hap c hc (by
  cases hpp:x.pp with
  | none=>trivial
  | some a=>exact λq=>hn (by grind[bl]))
 have ltd:d < g6.next:=D3.lt d (DV.mem _)
 have lts:x.bs < g6.next:=by grind[DV.lt,Dd.bk]
 have ltn:x.bn < g6.next:=by grind[DV.lt,Dd.bk]
 have nbl:∀c,(c=d\/c=x.bs\/c=x.bn)->c∉bl x.pp:=by grind
 have e1:h5.get d=_:=(hap' d ltd (nbl d (.inl rfl))).trans D3.hd
 have e2:h5.get x.bs=_:=(hap' _ lts (nbl _ (.inr (.inl rfl)))).trans D3.hs
 have e3:h5.get x.bn=_:=(hap' _ ltn (nbl _ (.inr (.inr rfl)))).trans D3.hn
 have e4:h5.get h.next=_:=(hap' _ hn6 (λz=>hnF (by grind[Dd.bk]))).trans hg6
 obtain⟨bq,hpq, -,hbq,hgq,hcq⟩:=hgr.2.resolve_left (λz=>by omega)
 have D5:DV (h5.set d (.cells (({ bs:=x.bs,bn:=x.bn,pp:=some ⟨b',0,none⟩,pn:=x.pn+1,pc:=c',ops:=ops3,lf:=lf3,dd:=dd3,pcs:=x.pcs ++ (.int .i64 N :: s),st:=x.st,nw:=x.nw }:Dd).cells n) 79 false)) d n { bs:=x.bs,bn:=x.bn,pp:=some ⟨b',0,none⟩,pn:=x.pn+1,pc:=c',ops:=ops3,lf:=lf3,dd:=dd3,pcs:=x.pcs ++ (.int .i64 N :: s),st:=x.st,nw:=x.nw }:=by
  refine⟨zaf _ _ _,by grind[zal],D3.ls,D3.us,by grind[zal],D3.ln,D3.un,hgr.same (Qc _) λc hc=>zal ?_,D3.pq.push hN hsl hu,?_,λc hc=>?_⟩
  ·grind[bl]
  ·simp[Dd.bk,bl]; omega
  grind[Dd.bk,bl,AH.next_set]
 refine⟨_,x.pn+1,c',h5,ha,zaa ⟨_,zaN e1 (by simp[Dd.cells]),zaa ⟨some ⟨x.bn,0,none⟩,n,n,zah (zaf _ _ _) rfl,s,by grind[zaw,zal],zaa ⟨q.1,q.2,hsl,?_⟩⟩⟩⟩
 have hle:0+Int.toNat (N:Int) * 128+s.length<=x.nw.length:=by grind[DV.ln]
 refine⟨_,zl0 D5.hn hle,_,0,?_,D5.setn (by grind[DV.ln]) (U8s.upd D3.un hu _ _),?_,.inl rfl,rfl⟩
 ·simp
 ·have fp:Fr (x.bk d) g6 h5 ([d,x.bs,x.bn] ++ [b']):=by
   refine⟨hob.1,by grind[Dd.bk],λc hc=>?_⟩
   grind[Dd.bk]
  exact ((f3.trans fp).set (DV.mem x) _).set (by simp[Dd.bk]) _
end
section
variable {K:Xs} {h:AH} {d n:Nat} {x:Dd}
theorem zfH {p:Option Addr} {b off:Nat} {k:Nat->Nat->Prop} (hp:p=some ⟨b,off,none⟩) (w:k b off):zag p k:=by subst hp; exact w
theorem DV.pend (D:DV h d n x) {j:Nat} (hj:j < x.pn):∃(b y:Nat) (w:List Value),x.pp=some ⟨b,0,none⟩/\h.get b=some (.cells x.pcs 125 false)/\y < n/\w.length=128/\U8s w/\(x.pcs.drop (0+Int.toNat (j:Int) * 129)).take 129=.int .i64 (y:Int) :: w/\0+Int.toNat (j:Int) * 129+129<=x.pcs.length:=by
 obtain⟨b,hp, -,hb,hg,hc⟩:=D.gr.2.resolve_left (λz=>by omega)
 obtain⟨⟨y,hy,h1⟩,h2⟩:=D.pq.2 j hj
 have hl:=D.pq.1
 refine⟨b,y,(x.pcs.drop (j * 129+1)).take 128,hp,hg,hy,by grind,h2,?_,by omega⟩
 grind[QU]
theorem DV.nopend (D:DV h d n x):DV (h.set d (.cells (({ x with pp:=none,pn:=0,pc:=0,pcs:=[] }:Dd).cells n) 79 false)) d n { x with pp:=none,pn:=0,pc:=0,pcs:=[] }:=by
 obtain⟨n1,n2,n3,n4⟩:=D.ne
 exact⟨zaf _ _ _,by grind[zal,hs],D.ls,D.us,by grind[zal,hn],D.ln,D.un,zbB.nil _ _ _ _,⟨rfl,by simp⟩,by grind[Dd.bk,bl],λc hc=>D.lt c (by grind[Dd.bk,bl])⟩
theorem Fr.sub {F F' F2:List Nat} {h g:AH} (f:Fr F h g F') (hs:∀c∈F2,c∈F'):Fr F h g F2:=⟨f.1,f.2.1,λc hc=>f.2.2 c (hs c hc)⟩
theorem zsq (D:DV h d n x) {j:Nat} (hj:j < x.pn) {h17:AH} (e17:h17=h.alloc (.cells ([(.int .i64 0)] ++ List.replicate 128 (.int .u8 0):List Value) 125 false)):
 ∃(b y:Nat) (l w:List Value) (h18:AH),x.pp=some ⟨b,0,none⟩/\ldN h b (0+Int.toNat (j:Int) * 129) 129=some l/\l.length=129/\stN h17 h.next 0 l=some h18/\y < n/\w.length=128/\U8s w/\ld1 h18 h.next 0=some (.int .i64 (y:Int))/\ldN h18 h.next 1 128=some w/\DV h18 d n x/\Fr (x.bk d) h h18 (x.bk d)/\h18.next=h.next+1:=by
 obtain⟨b,y,w,hp,hg,hy,hw,hu,hl,hle⟩:=D.pend hj
 have hnF:h.next∉x.bk d:=λq=>absurd (D.lt _ q) (Q9 _)
 have hg17:h17.get h.next=some (.cells ([(.int .i64 0)] ++ List.replicate 128 (.int .u8 0):List Value) 125 false):=by grind[zan]
 have o:Old h h17:=by grind[za2]
 have hgs:(h17.set h.next (.cells (.int .i64 (y:Int) :: w) 125 false)).get h.next=some (.cells (.int .i64 (y:Int) :: w) 125 false):=zaf _ _ _
 refine⟨b,y,.int .i64 (y:Int) :: w,w,h17.set h.next (.cells (.int .i64 (y:Int) :: w) 125 false),hp,by grind[zh8],by grind,by grind[zaR],hy,hw,hu,zah hgs rfl,by rw[zh8 hgs (by grind),List.drop_succ_cons,List.drop_zero,QA (by omega)],(D.old o).same (Qc _) λc hc=>zal (λq=>by grind),?_,by simp_all⟩
 have f:=o.fr (x.bk d)
 exact⟨f.1,λc hc hn=>by rw[zal (by omega)]; exact f.2.1 c hc hn,λc hc=>.inl hc⟩
theorem znU (D:DV h d n x) {y:Nat} (hy:y < n) {w:List Value} (hw:w.length=128) (hu:U8s w):∃(h' : AH) (cs:List Value),stN h x.bs (0+Int.toNat (y:Int) * 128) w=some h'/\DV h' d n { x with st:=cs }/\Fr (x.bk d) h h' (x.bk d):=by
 have hle:0+Int.toNat (y:Int) * 128+w.length<=x.st.length:=by grind[DV.ls]
 refine⟨_,_,zl0 D.hs hle,D.sets (by grind[DV.ls]) (U8s.upd D.us hu _ _),?_⟩
 grind[Fr.refl,Dd.bk,Fr.set]
theorem zwN (hk:K 114=none) (h1:K 176=none) (h3:K 177=none) (D:DV h d n x) (hW:x.pn < 1000000001):
 Wf Tryz.prog K 114 [ptr d 0] h λv h'=>∃(x' : Dd) (e:Int),x'.pn<=x.pn/\DV h' d n x'/\Fr (x.bk d) h h' (x'.bk d)/\(e=0\/e=42)/\v=.int .i64 e:=by
 refine zgt hk _ h _ ((znT h1 D).mono ?_)
 rintro _ g2 ⟨⟨ops,lf,dd,D2,n2⟩, -⟩
 refine (zsp h3 D2).mono ?_
 rintro _ g6 ⟨⟨ops3,lf3,dd3,D3,n3⟩,b,rfl⟩
 have f3:=(n2.fr (DV.mem x)).trans (n3.fr (DV.mem x))
 cases b with
 | false=>exact .inr ⟨rfl,{ x with ops:=ops3,lf:=lf3,dd:=dd3 },42,Qc _,D3,f3,.inr rfl,rfl⟩
 | true=>
 refine .inl ⟨rfl,zaa ⟨x.pp,x.pn,x.pc,zah D3.hd rfl,λi k g=>∃(j:Nat) (cs:List Value),i=j/\j<=x.pn/\k=x.pn - j/\DV g d n { x with ops:=ops3,lf:=lf3,dd:=dd3,st:=cs }/\Fr (x.bk d) h g (x.bk d),⟨_,0,x.st,rfl,Qg _,rfl,D3,f3⟩,?_⟩⟩
 rintro k g i ⟨j,cs,rfl,hj,rfl,Dg,fg⟩
 refine⟨λq=>?_,λq=>?_⟩
 ·have hj2:j < x.pn:=by omega
  obtain⟨b,y,l,w,h18,w1,w2,w3,w4,w5,w6,w7,w8,w9,D18,f18,n18⟩:=zsq Dg (j:=j) hj2 rfl
  refine zfH w1 ⟨by omega,by omega,l,w2,λh17 e17=>?_⟩
  subst e17
  obtain⟨h28,cs',r1,D28,f28⟩:=znU D18 w5 w6 w7
  refine⟨w3,h18,w4,zaa ⟨_,_,_,zah D18.hd rfl,y,w8,w,w9,zaa ⟨by omega,by omega,w6,h28,r1,λi29 e29=>?_⟩⟩⟩
  have e29:=zaT e29 (by omega) (by omega)
  exact⟨_,by omega,j+1,cs',by omega,by omega,rfl,D28,(fg.trans f18).trans f28⟩
 ·refine zaa ⟨_,zaN Dg.hd (by simp[Dd.cells]),_,0,?_,Dg.nopend,?_,.inl rfl,rfl⟩
  all_goals grind[Fr.set,Fr.sub,Dd.bk,bl]
theorem zut (D:DV h d n x):∃h',zak Tryz.prog h .copy #[76,76] [.slice (some ⟨x.bn,0,none⟩) n n,.slice (some ⟨x.bs,0,none⟩) n n]=some (.int .i64 (n:Int),h')/\DV h' d n { x with nw:=x.st }/\Fr (x.bk d) h h' (x.bk d):=by
 obtain⟨hu,i,z,hi,hz,hzs,hpos,hs,hby⟩:za3 Tryz.prog 76 41 128 128:=zaW (by kernel_rfl)
 have hfc:firstC h 128 n (.slice (some ⟨x.bs,0,none⟩) n n)=some x.st:=by grind[firstC,DV.ls,DV.hs]
 show ∃h',zc4 Tryz.prog h 76 (.slice (some ⟨x.bn,0,none⟩) n n) (.slice (some ⟨x.bs,0,none⟩) n n)=_/\_
 unfold zc4
 simp only[hu,hi,zjd,hs,Nat.min_self,hfc]
 cases hst:x.st with
 | nil=>
   have h0:n=0:=by grind[DV.ls]
   refine⟨h,rfl,?_,Fr.refl _ _⟩
   have:x.nw=[]:=by grind[List.eq_nil_of_length_eq_zero,DV.ln]
   have hx:({ x with st:=[],nw:=[] }:Dd)=x:=by
    cases x
    grind
   grind
 | cons a r=>
   have h0:n≠0:=by grind[DV.ls]
   have hsc:zap h x.bn 0 (a :: r)=some (h.set x.bn (.cells (a :: r) 41 false)):=by grind[zap,DV.hn,DV.ls,DV.ln]
   simp only
   rw[if_neg h0,hsc]
   grind[DV.setn,DV.ls,DV.us,Fr.refl,Dd.bk,Fr.set]
theorem zwO (hk:K 29=none) (D:DV h d n x) (hW:x.pn < 1000000001) (pa:Option Addr) (na ca:Nat) (ha:∀j,j < na->∃b off cs e r bv,pa=some ⟨b,off,none⟩/\b < h.next/\b∉x.bk d/\h.get b=some (.cells cs e r)/\cs[off+j]?= some (.bool bv)):
 Wf Tryz.prog K 29 [ptr d 0,.slice pa na ca] h λv h'=>∃(x' : Dd),x'.pn<=x.pn/\DV h' d n x'/\Fr (x.bk d) h h' (x'.bk d)/\v=.tuple #[]:=by
 refine zgs hk _ _ _ _ h _ (zaa ⟨x.pp,x.pn,x.pc,zah D.hd rfl,λi k g=>∃(j:Nat) (cs:List Value),i=j/\j<=x.pn/\k=x.pn - j/\DV g d n { x with st:=cs }/\Fr (x.bk d) h g (x.bk d),⟨_,0,x.st,rfl,Qg _,rfl,D,Fr.refl _ _⟩,?_⟩)
 rintro k g i ⟨j,cs,rfl,hj,rfl,Dg,fg⟩
 refine⟨λq=>?_,λq=>?_⟩
 ·have hj2:j < x.pn:=by omega
  obtain⟨b,y,l,w,h18,w1,w2,w3,w4,w5,w6,w7,w8,w9,D18,f18,n18⟩:=zsq Dg (j:=j) hj2 rfl
  refine zfH w1 ⟨by omega,by omega,l,w2,λh13 e13=>?_⟩
  subst e13
  refine⟨w3,h18,w4,λq2=>?_,λq2 i29 e29=>?_⟩
  ·obtain⟨b2,off,cs2,e,r,bv,rfl,a1,a2,a3,a4⟩:=ha j (by omega)
   have hld:ld1 h18 b2 (off+Int.toNat (j:Int) * 1)=some (.bool bv):=by
    refine zah (cs:=cs2) (e:=e) (ro:=r) ?_ (by grind)
    rw[(fg.trans f18).2.1 b2 a1 a2]
    omega
   refine zaa ⟨by omega,by omega,?_⟩
   cases bv with
   | true=>
     obtain⟨h28,cs',r1,D28,f28⟩:=znU D18 w5 w6 w7
     refine .inl ⟨hld,zaa ⟨_,_,_,zah D18.hd rfl,y,w8,w,w9,zaa ⟨by omega,by omega,w6,h28,r1,λi29 e29=>?_⟩⟩⟩
     have e29:=zaT e29 (by omega) (by omega)
     exact⟨_,by omega,j+1,cs',by omega,by omega,rfl,D28,(fg.trans f18).trans f28⟩
   | false=>
     refine .inr ⟨hld,λi29 e29=>?_⟩
     have e29:=zaT e29 (by omega) (by omega)
     exact⟨_,by omega,j+1,cs,by omega,by omega,rfl,D18,fg.trans f18⟩
  ·have e29:=zaT e29 (by omega) (by omega)
   exact⟨_,by omega,j+1,cs,by omega,by omega,rfl,D18,fg.trans f18⟩
 ·have D1:=Dg.nopend
  obtain⟨h44,c1,c2,c3⟩:=zut D1
  refine zaa ⟨_,zaN Dg.hd (by simp[Dd.cells]),zaa ⟨_,_,_,zah D1.hd rfl,zaa ⟨_,_,_,zah D1.hd rfl,_,h44,c1,zaa ⟨_,zaN c2.hd (by simp[Dd.cells]),?_⟩⟩⟩⟩
  have D3:=c2.setd x.ops (-1) x.dd
  refine zaa ⟨_,zaN D3.hd (by simp[Dd.cells]),_,?_,D3.setd x.ops (-1) false,?_,rfl⟩
  ·simp
  ·have f2:=((fg.set (DV.mem x) _).sub (F2:=[d,x.bs,x.bn]) λc hc=>by grind[Dd.bk]).trans (c3.sub (F2:=[d,x.bs,x.bn]) λc hc=>by grind[Dd.bk])
   grind[Fr.set,Dd.bk,bl]
end
section
variable {K:Xs} {h:AH} {d n:Nat} {x:Dd}
theorem PQ.put {pn j:Nat} {pcs l:List Value} (p:PQ n pcs pn) (hj:j < pn) (hl:l.length=128) (hu:U8s l):PQ n (pcs.take (j * 129+1) ++ l ++ pcs.drop (j * 129+1+128)) pn:=by
 have hp:=p.1
 refine⟨by grind,λi hi=>?_⟩
 obtain⟨⟨y,hy,h1⟩,h2⟩:=p.2 i hi
 refine⟨⟨y,hy,?_⟩,?_⟩
 ·by_cases q:i<=j
  ·grind
  ·grind[Qu]
 ·intro v hv
  obtain⟨k,hk⟩:=List.mem_iff_getElem?.1 hv
  rw[Ji] at hk
  split at hk
  rotate_left
  ·grind
  rw[QX] at hk
  have old:∀m,i * 129+1<=m->m < i * 129+129->pcs[m]?= some v->U8 v:=λm m1 m2 hm=>by
   refine h2 _ (QP (i:=m - (i * 129+1)) ?_)
   rw[Ji,if_pos (by omega),QX,show i * 129+1+(m - (i * 129+1))=m by omega]
   omega
  by_cases q1:i * 129+1+k < j * 129+1
  ·grind
  ·by_cases q2:i * 129+1+k < j * 129+1+128
   ·exact hu _ (by grind)
   ·grind
theorem DV.setp (D:DV h d n x) {b:Nat} (hp:x.pp=some ⟨b,0,none⟩) {cs:List Value} (hq:PQ n cs x.pn):DV (h.set b (.cells cs 125 false)) d n { x with pcs:=cs }:=by
 obtain⟨n1,n2,n3,n4⟩:=D.ne
 obtain⟨m1,m2,m3⟩:=n4 b (by grind[bl])
 refine⟨by rw[zal (Ne.symm m1)]; exact D.hd,by grind[zal,hs],D.ls,D.us,by grind[zal,hn],D.ln,D.un,⟨hq.1,?_⟩,hq,D.nd,D.lt⟩
 rcases D.gr.2 with ⟨z,_⟩ | ⟨b',hp',hl,hb,hgb,hc⟩
 all_goals simp_all
theorem zzU (hk:K 31=none) (h2:K 47=none) (D:DV h d n x) (hW:x.pn < 1000000001) (i:Int) {s:List Value} (hsl:s.length=128) (hu:U8s s):
 Wf Tryz.prog K 31 [ptr d 0,.int .i64 i,.agg s.toArray] h λv h'=>∃(x' : Dd) (e:Int),x'.pn<=x.pn/\DV h' d n x'/\Fr (x.bk d) h h' (x'.bk d)/\(e=0\/e=41)/\v=.int .i64 e:=by
 refine ziH hk _ _ _ h _ λh0 e0=>?_
 have o0:Old h h0:=by grind[za2]
 have D0:=D.old o0
 have hnF:h.next∉x.bk d:=λq=>absurd (D.lt _ q) (Q9 _)
 have hg0:h0.get h.next=some (.cells s 41 false):=by grind[zan]
 refine (zwK h2 D0 i).mono ?_
 rintro _ g ⟨rfl,rfl⟩
 by_cases q:0<=i/\i < n
 rotate_left
 ·grind[Old.fr]
 obtain⟨N,rfl⟩:∃N:Nat,i=N:=⟨i.toNat,by omega⟩
 obtain⟨h11,cs,r1,D1,f1⟩:=znU D0 (y:=N) (by omega) hsl hu
 have f01:=(o0.fr (x.bk d)).trans f1
 have hg1:h11.get h.next=some (.cells s 41 false):=by rw[f1.2.1 _ (by simp_all) hnF]; omega
 have hle:0+Int.toNat (N:Int) * 128+s.length<=x.nw.length:=by grind[DV.ln]
 have D2:=D1.setn (cs:=_) (by grind[DV.ln]) (U8s.upd D1.un hu (0+Int.toNat (N:Int) * 128) (0+Int.toNat (N:Int) * 128+s.length))
 have f2:=f01.set (o:=.cells (x.nw.take (0+Int.toNat (N:Int) * 128) ++ s ++ x.nw.drop (0+Int.toNat (N:Int) * 128+s.length)) 41 false) (b:=x.bn) (by simp[Dd.bk])
 refine .inl ⟨by grind,zaa ⟨_,_,_,zah D0.hd rfl,s,zaw hg0 hsl,zaa ⟨q.1,q.2,hsl,h11,r1,zaa ⟨_,_,_,zah D1.hd rfl,s,zaw hg1 hsl,zaa ⟨q.1,q.2,hsl,_,zl0 D1.hn hle,zaa ⟨_,_,_,zah D2.hd rfl,λi k g=>∃(j:Nat) (cs' : List Value),i=j/\j<=x.pn/\k=x.pn - j/\DV g d n { x with st:=cs,nw:=x.nw.take (0+Int.toNat (N:Int) * 128) ++ s ++ x.nw.drop (0+Int.toNat (N:Int) * 128+s.length),pcs:=cs' }/\Fr (x.bk d) h g (x.bk d)/\g.get h.next=some (.cells s 41 false),⟨_,0,x.pcs,rfl,Qg _,rfl,D2,f2,by grind[zal,Dd.bk]⟩,?_⟩⟩⟩⟩⟩⟩
 rintro k g i ⟨j,cs',rfl,hj,rfl,Dg,fg,hgs⟩
 refine⟨λq1=>?_,λq1=>⟨_,0,(by simp),Dg,fg,.inl rfl,rfl⟩⟩
 have hj2:j < x.pn:=by grind
 obtain⟨b,y,w,w1,w2,w3,w4,w5,w6,w7⟩:=Dg.pend hj2
 have hy:cs'[0+Int.toNat (j:Int) * 129]?= some (.int .i64 (y:Int)):=by
  have:=congrArg (·[0]?) w6
  grind
 refine zaa ⟨_,_,_,zah Dg.hd rfl,zfH w1 ⟨by omega,by omega,y,zah w2 hy,λz=>?_,λz i49 e49=>?_⟩⟩
 ·have hpq:=Dg.pq.put hj2 hsl hu
  have e:0+Int.toNat (j:Int) * 129+1=j * 129+1:=by omega
  have e3:stN g b (0+Int.toNat (j:Int) * 129+1) s=some (g.set b (.cells (cs'.take (j * 129+1) ++ s ++ cs'.drop (j * 129+1+128)) 125 false)):=by
   rw[e,zl0 w2 (by omega),hsl]
  refine zaa ⟨_,_,_,zah Dg.hd rfl,s,zaw hgs hsl,zfH w1 ⟨by omega,by omega,hsl,_,e3,λi48 e48=>?_⟩⟩
  have e48:=zaT e48 (by omega) (by omega)
  refine⟨_,by omega,j+1,_,by omega,by omega,rfl,Dg.setp w1 hpq,fg.set ?_ _,?_⟩
  all_goals grind[Dd.bk,bl,zal]
 ·have e49:=zaT e49 (by omega) (by omega)
  exact⟨_,by omega,j+1,cs',by omega,by omega,rfl,Dg,fg,hgs⟩
theorem zzV (hk:K 13=none) (i:Int) (h:AH):
 Wf Tryz.prog K 13 [.int .i64 i] h λv h'=>∃(d n:Nat) (x:Dd),v=ptr d 0/\n<=1024/\x.pn=0/\DV h' d n x/\Old h h'/\∀c∈x.bk d,h.next<=c:=by
 refine znS hk _ h _ λi0 e0 i1 e1=>?_
 obtain⟨n,rfl⟩:∃n:Nat,i1=n:=⟨i1.toNat,by omega⟩
 refine⟨by omega,λh2 e2=>⟨by omega,λh3 e3 h4 e4=>?_⟩⟩
 rw[Qh] at e2 e3 e4
 generalize hz:(List.replicate n (List.replicate 128 (Value.int .u8 0))).flatten=zs at e2 e3
 have lz:zs.length=n * 128:=by rw[<-hz]; simp
 have uz:U8s zs:=λv hv=>by
  rw[<-hz] at hv
  obtain⟨l,hl,hv⟩:=List.mem_flatten.1 hv
  rw[List.eq_of_mem_replicate hl] at hv
  exact U8s.zero _ v hv
 have o2:Old h h2:=by grind[za2]
 have o3:Old h2 h3:=by grind[za2]
 have o4:Old h3 h4:=by grind[za2]
 have n2:h2.next=h.next+1:=by simp_all
 have n3:h3.next=h2.next+1:=by simp_all
 have n4:h4.next=h3.next+1:=by simp_all
 refine⟨h3.next,n,{ bs:=h.next,bn:=h2.next,pp:=none,pn:=0,pc:=0,ops:=0,lf:=-1,dd:=false,pcs:=[],st:=zs,nw:=zs },rfl,by omega,rfl,⟨?_,?_,lz,uz,?_,lz,uz,zbB.nil _ _ _ _,⟨rfl,by simp⟩,?_,?_⟩,(by grind[Old.trans]),?_⟩
 ·rw[e4]; exact zan _ _
 ·simp only
  rw[o4.2 _ (by omega),o3.2 _ (by omega),e2,zan]
 ·simp_all
 all_goals grind[Dd.bk,bl]
end
def zBY (S:TY) (g:Int) (h:AH):Prop:=∃n x,DV h S.dev n x/\(x.pn:Int)<=g/\g<=1000000000/\n<=1024/\∀c∈x.bk S.dev,S.dv c
abbrev K6:Xs:=zjh 266
noncomputable def ziK (args:List Value) (h:AH):Option (Value×AH):=
 match args with
 | [.slice (some ⟨_,_,none⟩) 0 0]=>some (.slice (some ⟨h.next,0,none⟩) 0 0,h.alloc (.cells [] 96 false))
 | a=>by
   classical exact if z:∃r n,zbJ Tryz.prog K6 (ex Tryz.prog K6 n) 160 a h=some r then some z.choose else none
section
variable {P:Program} {K:Xs} {φ φ' : Fi} {h h' : AH} {w w' : World}
theorem zuu {f:FuncId} {n m:Nat} {a:List Value} {r s:Value×AH} (e1:zbJ P K (ex P K n) f a h=some r) (e2:zbJ P K (ex P K m) f a h=some s):r=s:=by
 have k1:=zhj (zfm (Nat.le_max_left n m)) e1
 have k2:=zhj (zfm (Nat.le_max_right n m)) e2
 grind
theorem Wf.call {f:FuncId} {args:List Value} {Q:Value->AH->Prop} (hk:K f=none) (w:Wf P K f args h Q):∃v h',Q v h'/\∃n,zbJ P K (ex P K n) f args h=some (v,h'):=by
 obtain⟨n,v,h',e,q⟩:=w
 exact⟨v,h',q,n,by grind[zdQ]⟩
theorem Tn.more (t:Tn P φ h w φ' h w') (hf:φ h.next=none) (o:zca):Tn P φ h w φ' (h.alloc o) w':=by
 have f' : φ' h.next=none:=by
  cases e:φ' h.next with
  | none=>rfl
  | some r=>have:=t.new h.next (by rw[e]; simp); grind
 have g:∀{b o' r},(h.alloc o).get b=some o'->φ' b=some r->h.get b=some o':=λ{b o' r} k1 k2=>by
  by_cases e:b=h.next
  ·grind
  ·rwa [zbk e] at k1
 exact⟨t.le,λb k=>(t.new b k).imp id λz=>by omega,by rw[AH.next_alloc]; omega,⟨λb o' r k1 k2=>t.rel.obj b o' r (g k1 k2) k2,λb1 b2 o1 o2 r1 r2 k1 k2 k3 k4=>t.rel.inj b1 b2 o1 o2 r1 r2 (g k1 k3) (g k2 k4) k3 k4,LtH.alloc t.rel.lt⟩,t.size,t.os,t.tape,t.output,t.keep,λb o' r k1 k2=>t.old b o' r (g k1 k2) k2⟩
theorem zsr {h1:AH} {st elem:TypeId} {sz by' : Nat} (E:za3 P st elem sz by') {x:Value} {b:Nat} (hx:zjd x=some 0) (hf:firstC h1 sz 0 x=some []):
 zak P h1 .append #[st,st] [.slice (some ⟨b,0,none⟩) 0 0,x]=some (.slice (some ⟨b,0,none⟩) 0 0,h1):=by
 obtain⟨hu,i,z,hi,hz,hzs,hpos,rfl,rfl⟩:=E
 have h0:firstC h1 i.size 0 (.slice (some ⟨b,0,none⟩) 0 0)=some []:=by simp[firstC]
 rw[zaO hu]
 unfold zaM
 simp only[hu,hi,hx,h0,hf,hz]
 rw[if_pos ⟨hzs,hpos,by simp,by simp⟩,if_neg (by decide),if_pos (by simp)]
end
theorem znV {P:Program} {h h1:AH} {st elem:TypeId} {sz by' : Nat} (e1:h1=h.alloc (.cells [] elem false)) (E:za3 P st elem sz by') {x:Value} {m:Nat} {ns:List Value} (hx:zjd x=some m) (hf:firstC h1 sz m x=some ns) (hns:ns.length=m * sz) (hroom:m * by'<=zaA) (hroom2:m<=9223372036854775807):
 ∃b c' h',zak P h1 .append #[st,st] [.slice (some ⟨h.next,0,none⟩) 0 0,x]=some (.slice (some ⟨b,0,none⟩) m c',h')/\h.next<=b/\b < h'.next/\h'.get b=some (.cells ns elem false)/\(c'= zai/\m≠0\/c'= m)/\h1.next<=h'.next/\∀d,d < h.next->h'.get d=h.get d:=by
 by_cases hm0:m=0
 ·subst hm0
  obtain rfl:ns=[]:=by simpa using hns
  exact⟨h.next,0,h1,zsr E hx hf,Qc _,by simp_all,by grind[zan],.inr rfl,Qc _,by grind[zbk]⟩
 obtain⟨p',c',h',k,G,o, -,q⟩:=(zbB.lit (sz:=sz) (n:=0) e1 (by simp) (Qc _)).append E (by simp_all) hx hf hns (by grind) (by omega) ⟨_,E.1⟩
 have ho:∀d,d < h.next->h'.get d=h.get d:=λd hd=>by rw[o.2 d hd,e1,zbk (by omega)]
 rw[Qq] at k G
 rcases G.2 with ⟨rfl,rfl,rfl⟩ | ⟨b,rfl,k1,k2,k3,k4⟩
 ·omega
 ·exact⟨b,c',h',k,k1,k2,k3,k4.imp (λz=>⟨z,hm0⟩) id,o.1,ho⟩
theorem zss {a:List Value} {h:AH} {n:Nat} {r:Value×AH} (ha:∀b off,a≠[.slice (some ⟨b,off,none⟩) 0 0]) (e:zbJ Tryz.prog K6 (ex Tryz.prog K6 n) 160 a h=some r):ziK a h=some r:=by
 have z:∃r n,zbJ Tryz.prog K6 (ex Tryz.prog K6 n) 160 a h=some r:=⟨r,n,e⟩
 obtain⟨m,hm⟩:=z.choose_spec
 unfold ziK
 split
 ·exact absurd rfl (ha _ _)
 ·rw[dif_pos z,zuu hm e]
theorem zkR {K:Xs} (hk:K 160=none) (p:Option Addr) (n c:Nat) (h:AH) (Q:Value->AH->Prop) (H:
 zti p (Q (.slice none 0 0) h) (0 < n+c/\∀g,g=h.alloc (.cells ([]:List Value) 96 false)->
 ∃(q:Option Addr) (m d:Nat) (g' : AH),zak Tryz.prog g .append #[97,97] [(.slice (some ⟨h.next,0,none⟩) 0 0),(.slice p n c)]=some (.slice q m d,g')/\Q (.slice q m d) g')):
 Wf Tryz.prog K 160 [(.slice p n c)] h Q:=
 zaj (hs:=[]) hk (Eq.mpr (by kernel_rfl) H)
theorem zqb:za3 Tryz.prog 97 96 3 24:=zaW (by kernel_rfl)
theorem zst (G:zdM Tryz.prog) (X:zbK Tryz.prog K6):zbK Tryz.prog (zmS K6 160 (.sum ziK)):=by
 refine zfs X ⟨_,_,Tryz.func160,rfl⟩ λargs h v h' hg hn N φ args' w cs hN hF ha hr=>?_
 have run:∀{a:List Value} {v:Value} {h' : AH} {n:Nat},zbJ Tryz.prog K6 (ex Tryz.prog K6 n) 160 a h=some (v,h')->h'.next<=N->AR φ a args'->_:=λ{a v h' n} e1 e2 e3=>zbZ G X (zdv G X n) 160 a h v h' e1 N φ args' w cs e2 hF e3 hr
 unfold ziK at hg
 split at hg
 ·rename_i b off
  simp only[Qa,Qf] at hg
  obtain⟨rfl,rfl⟩:=hg
  obtain⟨x',rfl,hx⟩:=zxm ha
  rw[AH.next_alloc] at hN
  cases hx with
  | slice hφ hc=>
    obtain⟨v,h',⟨rfl,rfl⟩,n,e⟩:=(zkR (K:=K6) rfl (some ⟨b,off,none⟩) 0 zai h (λv h'=>v=.slice (some ⟨h.next,0,none⟩) 0 0/\h'= h.alloc (.cells [] 96 false)) ⟨by decide,λg eg=>⟨_,_,_,_,zsr zqb rfl (by simp[firstC]),rfl,eg⟩⟩).call rfl
    exact run e (by rw[AH.next_alloc]; exact hN) ⟨.sliceE hφ (.inl rfl),trivial⟩
  | sliceY=>
    obtain⟨v,h',⟨rfl,rfl⟩,n,e⟩:=(zkR (K:=K6) rfl none 0 0 h (λv h'=>v=.slice none 0 0/\h=h') ⟨rfl,rfl⟩).call rfl
    obtain⟨φ',v1,w',fr,t,hv,st,hfn,hl⟩:=run e (by omega) ⟨.sliceNil 0 0 (by decide),trivial⟩
    cases hv
    exact⟨φ',_,w',fr,t.more (hF _ (Qc _) (by omega)) _,.sliceY _ _,st,hfn,hl⟩
 ·split at hg
  ·rename_i z
   obtain⟨n,e⟩:=z.choose_spec
   rw[Q7 hg] at e
   exact run e hN ha
  ·cases hg
def keB (t:TypeId):Bool:=Nat.beq t 96 || Nat.beq t 212 || Nat.beq t 41 || Nat.beq t 265 || Nat.beq t 43
noncomputable def KB:Xs:=zmS (zmS (zjh 266) 160 (.sum ziK)) 5 (.sum zt6)
noncomputable def cx0:Cx:=⟨Tryz.prog,KB,flP Tryz.prog 12,79,zBY,keB,λ_=>none⟩
theorem zxX:zsm cx0=true:=by kernel_rfl
theorem zxY:([96,212,41,265,43].all λt=>zsl cx0 40 t && (match isAgg cx0 t with | some true=>true | _=>false) && Tryz.prog.keyTypeAt 40 t)=true:=by kernel_rfl
theorem zjW:XA cx0 where
 fl:=rfl
 chk:=zxX
 key:=λt h=>by
  have hm:t∈[96,212,41,265,43]:=by
   simp only[cx0,keB,Jh] at h
   simp only[Qy,List.not_mem_nil,or_false]
   rcases h with (((h | h) | h) | h) | h <;> have:=Qb h <;> simp[this]
  have:=Qz.1 zxY t hm
  simp only[Qd] at this
  refine⟨this.1.1,?_,this.2⟩
  have h2:=this.1.2
  split at h2
  ·assumption
  ·cases h2
 d1:=λS g h h' D hg hn=>by
  obtain⟨n,x,D,h1,h2,h3,h4⟩:=D
  exact⟨n,x,D.same hn λc hc=>hg c (h4 c hc),h1,h2,h3,h4⟩
 d2:=λS S' g h D hd hv=>by
  obtain⟨n,x,D,h1,h2,h3,h4⟩:=D
  exact⟨n,x,by rw[hd]; exact D,h1,h2,h3,λc hc=>(hv c).2 (h4 c (by rw[<-hd]; exact hc))⟩
abbrev Vl (f:FuncId) (s:FS):Prop:=Val cx0 f s
end Go.Am
