/-
  Texts of this proof, part 15. No condition.
-/
import Derived.Test.YtmnbboleclchcaaGreatFAm9a
set_option linter.unusedVariables false
set_option linter.unusedSimpArgs false
namespace Go.Am
section
open Go.ChangeShapes Go.WideShapes
section
variable {P:Program} {w:World} {φ:Fi} {h:AH} {H:Type} {enc:TypeId×Value->H}
def RdV (P:Program) (h:AH) (g:Nat) (t:TypeId) (v:Value):Prop:=match P.underlying t with
 | some (.struct _) | some (.array _ _)=>∃cs,v=.agg cs.toArray/\Rd P h g t cs
 | _=>Rd P h g t [v]
def RdA (P:Program) (h:AH) (g:Nat):List TypeId->List Value->Prop
 | [],[]=>True
 | t :: ts,v :: vs=>RdV P h g t v/\RdA P h g ts vs
 | _,_=>False
theorem RdV.mono {h' : AH} (o:Old h h') {g:Nat} {t:TypeId} {v:Value} (k:RdV P h g t v):RdV P h' g t v:=by grind[RdV,Rd.mono]
theorem zv9 {held:Bool} {base:Nat} {g:Nat} {t:TypeId} {v:Value} {d:DataW H} {ps:List MemPlace} (ho:okT P g t=true) (hv:Value.okWide P w .any base t v) (ht:DataW.Trod enc P w 0 (λ_=>true) held t v d ps) (hwt:(d.weights P t).all (·<=reachBytes)=true) (s:St P φ h w):
 ∃φ' h' a,Ext P w φ h φ' h'/\VR φ' a v/\RdV P h' g t a:=by
 obtain⟨fuel,hx⟩:=ht
 obtain⟨φ',h',acs,e,l,r⟩:=ztX g t _ φ h ho ⟨fuel,_,hx,hwt⟩ s
 unfold Value.okWide at hv
 unfold RdV
 have agg:(∃cs:Array Value,v=.agg cs)->∃φ' h' a,Ext P w φ h φ' h'/\VR φ' a v/\∃cs,a=.agg (List.toArray cs)/\Rd P h' g t cs:=by grind[LR.agg,Value.cells]
 have scal:(∀cs:Array Value,v≠.agg cs)->∃φ' h' a,Ext P w φ h φ' h'/\VR φ' a v/\Rd P h' g t [a]:=by
  intro hn
  have hc:v.cells.toList=[v]:=by
   cases v <;> first | rfl | grind
  rw[hc] at l
  match acs,l,r with
  | [a],l,r=>exact⟨φ',h',a,e,l.1,r⟩
 cases g with
 | zero=>grind[okT]
 | succ g=>
   unfold okT at ho
   cases hu:P.underlying t with
   | none=>grind
   | some dd=>
     have sc:(∀cs:Array Value,v=.agg cs->False)->∃φ' h' a,Ext P w φ h φ' h'/\VR φ' a v/\Rd P h' (g+1) t [a]:=λz=>scal z
     cases dd with
     | bool=>exact sc λcs hcs=>by subst hcs; simp[hu,Cell.okWide,Cell.ok] at hv
     | int _=>exact sc λcs hcs=>by subst hcs; simp[hu,Cell.okWide,Cell.ok] at hv
     | string=>exact sc λcs hcs=>by subst hcs; simp[hu,Cell.okWide,Cell.ok] at hv
     | slice _=>exact sc λcs hcs=>by subst hcs; simp[hu,Cell.okWide,Cell.ok] at hv
     | struct _=>exact agg (by grind)
     | array _ _=>exact agg (by grind)
     | _=>grind
theorem zoE {base g:Nat}:∀{ts:List TypeId} {vs:List Value} {ds:List (DataW H)} {ps:List MemPlace} {φ:Fi} {h:AH},ts.all (okT P g)=true->(∀(j:Nat) t v,ts[j]?= some t->vs[j]?= some v->Value.okWide P w .any base t v)->
 DataW.TrodAll enc P w 0 (λ_=>true) true ts vs ds ps->(DataW.weightsEach P ts ds).all (·<=reachBytes)=true->St P φ h w->∃φ' h' as,Ext P w φ h φ' h'/\AR φ' as vs/\RdA P h' g ts as
 | [],[],[],ps,φ,h,_,_,_,_,s=>⟨φ,h,[],Ext.refl s,trivial,trivial⟩
 | t :: ts,v :: vs,d :: ds,ps,φ,h,ho,hv,⟨p,q,h1,h2,_⟩,hw,s=>by
   rw[DataW.weightsEach,List.all_append,Qd] at hw
   simp only[List.all_cons,Qd] at ho
   obtain⟨φ1,g1,a,e1,r1,k1⟩:=zv9 ho.1 (hv 0 t v rfl rfl) h1 hw.1 s
   obtain⟨φ2,g2,as,e2,r2,k2⟩:=zoE ho.2 (λj t' v' q1 q2=>hv (j+1) t' v' q1 q2) h2 hw.2 e1.st
   exact⟨φ2,g2,a :: as,e1.trans e2,⟨r1.mono e2.le,r2⟩,k1.mono e2.old,k2⟩
theorem zpz.sameAt {w w' : World} (k:zpz w w') {p:MemPlace} (hp:p.block < w.heap.size):w.sameAt w' p:=by
 obtain⟨-, -, -,k⟩:=k
 cases p with
 | cell b off=>
   have:=k b hp
   show w'.cell? ⟨b,off,none⟩=w.cell? ⟨b,off,none⟩
   grind[World.cell?]
 | map b=>exact k b hp
theorem zgU (hl:laidOutB P=true) {W' : World} {sp:Nat->Bool} (hk:zpz w W'):∀{ts:List TypeId} {vs:List Value} {ds:List (DataW H)} {ps:List MemPlace},
 ts.all (λt=>P.readableRec t && Nat.blt t P.types.size)=true->DataW.TrodAll enc P w 0 (λ_=>true) true ts vs ds ps->(∀p∈ps,p.block < w.heap.size)->(∀p∈ps,sp p.block=true)->DataW.TrodAll enc P W' 0 sp true ts vs ds ps
 | [],[],[],ps,_,k,_,_=>k
 | t :: ts,v :: vs,d :: ds,ps,ho,⟨p,q,h1,h2,he⟩,hlt,hsp=>by
   subst he
   simp only[List.all_cons,Qd,Q5] at ho
   exact⟨p,q,by grind[WideElems.Trod_stays,zpz.sameAt],
    zgU hl hk ho.2 h2 (by grind) (by grind),rfl⟩
theorem zid {base:Nat} {sp:Nat->Bool} {held:Bool}:∀{ts:List TypeId} {vs:List Value} {ds:List (DataW H)} {ps:List MemPlace},DataW.TrodAll enc P w base sp held ts vs ds ps->ds.length=ts.length
 | [],[],[],_,_=>rfl
 | _ :: ts,_ :: vs,_ :: ds,_,⟨_,_,_,h,_⟩=>by simp[zid h]
end
end
def za1 (lim:Nat) (h:AH) (elem:TypeId) (sz b n c:Nat) (cs:List Value):Prop:=
 cs.length=n * sz/\lim<=b/\b < h.next/\n<=c/\c < zai/\∃rest,h.get b=some (.cells (cs ++ rest) elem false)/\(cs ++ rest).length=c * sz
theorem za1.shows {lim:Nat} {h:AH} {elem:TypeId} {sz b n c:Nat} {cs:List Value} (g:za1 lim h elem sz b n c cs):zaz h (some ⟨b,0,none⟩) n sz cs:=by
 obtain⟨h1,h2,h3,h4,h5,rest,h6,h7⟩:=g
 refine⟨h1,.inr ⟨b,0,_,elem,false,rfl,h3,h6,by grind,?_⟩⟩
 grind
theorem za1.old {lim:Nat} {h h' : AH} {elem:TypeId} {sz b n c:Nat} {cs:List Value} (g:za1 lim h elem sz b n c cs) (o:Old h h'):za1 lim h' elem sz b n c cs:=by
 obtain⟨h1,h2,h3,h4,h5,rest,h6,h7⟩:=g
 exact⟨h1,h2,Qi h3 o.1,h4,h5,rest,by rw[o.2 b h3,h6],h7⟩
theorem za1.make {h h1:AH} {elem:TypeId} {sz c:Nat} {al:List Value} (e:h1=h.alloc (.cells al elem false)) (hl:al.length=c * sz) (hc:c < zai):za1 h.next h1 elem sz h.next 0 c []:=by
 subst e
 exact⟨by simp,Qc _,Je _,Qg _,hc,al,zan _ _,hl⟩
theorem za1.push {P:Program} {lim:Nat} {h h4:AH} {st elem:TypeId} {sz by' : Nat} {b n c:Nat} {cs:List Value} (g:za1 lim h elem sz b n c cs) (E:za3 P st elem sz by')
 {m:Nat} {ns:List Value} (e4:h4=h.alloc (.cells ns elem false)) (hns:ns.length=m * sz) (hm:0 < m) (hroom:n+m<=c):
 ∃h',zak P h4 .append #[st,st] [.slice (some ⟨b,0,none⟩) n c,.slice (some ⟨h.next,0,none⟩) m m]=some (.slice (some ⟨b,0,none⟩) (n+m) c,h')/\za1 lim h' elem sz b (n+m) c (cs ++ ns)/\h'.next=h.next+1/\∀x,x < h.next->x≠b->h'.get x=h.get x:=by
 have gs:=(g.old (h':=h4) (by grind[za2])).shows
 obtain⟨h1,h2,h3,h4',h5,rest,h6,h7⟩:=g
 obtain⟨hu,i,z,hi,hz,hzs,hpos,rfl,rfl⟩:=E
 have hfc:firstC h4 i.size n (.slice (some ⟨b,0,none⟩) n c)=some cs:=by grind[zaz.firstC]
 have hfn:firstC h4 i.size m (.slice (some ⟨h.next,0,none⟩) m m)=some ns:=zf4 e4 hns
 have hb4:h4.get b=some (.cells (cs ++ rest) elem false):=by grind[zbk]
 have hns2:ns.length<=rest.length:=by
  have:(n+m) * i.size<=c * i.size:=Qt _ hroom
  grind
 refine⟨h4.set b (.cells (cs ++ ns ++ rest.drop ns.length) elem false),?_,⟨by grind,h2,?_,hroom,h5,rest.drop ns.length,zaf _ _ _,?_⟩,by simp_all,by grind[zal,zbk]⟩
 ·rw[zaO hu]
  unfold zaM
  simp only[hu,hi,zjd,hfc,hfn,hz]
  have:zap h4 b (0+n * i.size) ns=some (h4.set b (.cells (cs ++ ns ++ rest.drop ns.length) elem false)):=by
   unfold zap
   rw[hb4]
   simp only
   rw[if_pos (by grind),Qq,<-h1,List.take_left,QL]
   grind[QH]
  grind
 ·rw[e4]; show b < h.next+1; omega
 grind
def byB (w n:Nat):List Nat:=(List.range w).map λk=>n / 256 ^ k % 256
theorem zdx (w n:Nat):(byB w n).length=w:=by simp[byB]
theorem ztY (w n:Nat):byB (w+1) n=byB w n ++ [n / 256 ^ w % 256]:=by grind[byB,List.range_succ]
theorem zoF {w n x:Nat} (hx:x∈byB w n):x < 256:=by grind[byB]
def enc (ws ns:List Nat):List Nat:=(List.zipWith byB ws ns).flatten
theorem zho (w n:Nat) (ws ns:List Nat):enc (w :: ws) (n :: ns)=byB w n ++ enc ws ns:=rfl
theorem zrk:∀(ws ns:List Nat) (w n:Nat),ws.length=ns.length->enc (ws ++ [w]) (ns ++ [n])=enc ws ns ++ byB w n
 | [],[],w,n,_=>by simp[enc]
 | a :: ws,b :: ns,w,n,hl=>by
   rw[List.cons_append,List.cons_append,zho,zho,zrk ws ns w n (by grind),QM]
theorem zns:∀(ws ns:List Nat),ws.length=ns.length->(enc ws ns).length=ws.sum
 | [],[],_=>rfl
 | a :: ws,b :: ns,hl=>by rw[zho,Qs,zdx,zns ws ns (by grind),List.sum_cons]
theorem zoG:∀(ws ns:List Nat) {x:Nat},x∈enc ws ns->x < 256
 | [],_,_,h=>by simp[enc] at h
 | _ :: _,[],_,h=>by simp[enc] at h
 | a :: ws,b :: ns,x,h=>by
   rw[zho,QI] at h
   exact h.elim zoF (zoG ws ns)
def deB:List Nat->Nat
 | []=>0
 | b :: bs=>b+256 * deB bs
theorem znt:∀(bs:List Nat) (b:Nat),deB (bs ++ [b])=deB bs+b * 256 ^ bs.length
 | [],b=>by simp[deB]
 | x :: bs,b=>by
   show x+256 * deB (bs ++ [b])=x+256 * deB bs+b * 256 ^ (bs.length+1)
   have e:b * 256 ^ (bs.length+1)=256 * (b * 256 ^ bs.length):=by grind
   rw[znt bs b,Nat.mul_add,e]
   omega
theorem zrl:∀(bs:List Nat),(∀x∈bs,x < 256)->deB bs < 256 ^ bs.length
 | [],_=>by decide
 | x :: bs,h=>by
   have h1:=h x (by simp)
   have h2:=zrl bs λy hy=>h y (by grind)
   grind[deB]
def dec:List Nat->List Nat->List Nat
 | [],_=>[]
 | w :: ws,bs=>deB (bs.take w) :: dec ws (bs.drop w)
theorem znu:∀(ws bs:List Nat),(dec ws bs).length=ws.length
 | [],_=>rfl
 | w :: ws,bs=>by simp[dec,znu ws]
theorem zrm:∀(ws:List Nat) (w:Nat) (bs:List Nat),dec (ws ++ [w]) bs=dec ws bs ++ [deB ((bs.drop ws.sum).take w)]
 | [],w,bs=>by rfl
 | a :: ws,w,bs=>by
   show deB (bs.take a) :: dec (ws ++ [w]) (bs.drop a)=_
   rw[zrm ws w,QC,List.sum_cons]
   rfl
theorem zzw (k:Nat):2 ^ (8 * k)=256 ^ k:=by rw[Nat.pow_mul]
theorem zrn {x k:Nat} (hk:k<=8):zaV .shr .u64 (x:Int) ((8 * k:Nat):Int)=some (.int .u64 ((x / 256 ^ k:Nat):Int)):=by
 unfold zaV
 have h1:min (((8 * k:Nat):Int)).toNat (IntKind.bits .u64)=8 * k:=by
  exact Nat.min_eq_left (by show 8 * k<=64; omega)
 simp only[h1]
 rw[Int.fdiv_eq_ediv_of_nonneg _ (by grind),<-zzw]
 rfl
theorem zwa {x k:Nat} (hk:k<=8) (hx:x * 256 ^ k < 18446744073709551616):zaV .shl .u64 (x:Int) ((8 * k:Nat):Int)=some (.int .u64 ((x * 256 ^ k:Nat):Int)):=by
 unfold zaV
 have h1:min (((8 * k:Nat):Int)).toNat (IntKind.bits .u64)=8 * k:=by
  exact Nat.min_eq_left (by show 8 * k<=64; omega)
 have e:(x:Int) * 2 ^ (8 * k)=((x * 256 ^ k:Nat):Int):=by rw[<-zzw]; rfl
 grind[zkq]
theorem zxx {a b k:Nat} (hk:k<=8) (ha:a < 256 ^ k) (hb:b * 256 ^ k+a < 18446744073709551616):zgK .or .u64 (a:Int) ((b * 256 ^ k:Nat):Int)=some (.int .u64 ((a+b * 256 ^ k:Nat):Int)):=by
 unfold zgK
 have h1:BitVec.ofInt (IntKind.bits .u64) (a:Int)=BitVec.ofNat 64 a:=by rfl
 have h2:BitVec.ofInt (IntKind.bits .u64) ((b * 256 ^ k:Nat):Int)=BitVec.ofNat 64 (b * 256 ^ k):=by rfl
 have h3:(BitVec.ofNat 64 a ||| BitVec.ofNat 64 (b * 256 ^ k)).toNat=a+b * 256 ^ k:=by
  rw[BitVec.toNat_or,Jj,Jj,Q0 (by omega),Q0 (by omega)]
  rw[<-zzw] at ha ⊢
  grind[Nat.mul_comm,Nat.two_pow_add_eq_or_of_lt]
 grind[BitVec.toNat,zkq]
theorem ztZ (n:Nat):IntKind.u8.wrap (n:Int)=((n % 256:Nat):Int):=by rfl
theorem zkB {ws:List Nat} {j:Nat} (hj:j < ws.length):(ws.take (j+1)).sum=(ws.take j).sum+ws[j]:=by grind[Qv]
theorem zcx:∀(ws:List Nat) (j:Nat),(ws.take j).sum<=ws.sum
 | [],j=>by simp
 | w :: ws,0=>by simp
 | w :: ws,j+1=>by
   have:=zcx ws j
   grind
def zf6 (P:Program) (h:AH) (elem:TypeId) (b n c:Nat):Prop:=(n<=c/\c < zai)\/(c=zai/\∃cs e ro,h.get b=some (.cells cs e ro)/\P.cellsOf e=P.cellsOf elem)
theorem zro {P:Program} {h:AH} {st elem:TypeId} {sz by' : Nat} (E:za3 P st elem sz by') {b off n c lo:Nat} (hsz:P.cellsOf elem=sz) (hc:zf6 P h elem b n c) (hlo:lo<=n):
 ∃off' c',zay P h st (.slice (some ⟨b,off,none⟩) n c) (some (.int .i64 (lo:Int))) none none=some (.slice (some ⟨b,off',none⟩) (n - lo) c')/\(lo < n->off'= off+lo * sz)/\zf6 P h elem b (n - lo) c':=by
 obtain⟨hu,i,z,hi,hz,hzs,hpos,rfl,rfl⟩:=E
 unfold zay
 rw[hu]
 simp only[hi,Option.isSome_some,if_true]
 have bd:∀m,zbl (.int .i64 (lo:Int)) m=if lo<=m then some lo else none:=by grind[zbl]
 rcases hc with ⟨h1,h2⟩ | ⟨rfl,cs,e,ro,hg,he⟩
 ·rw[if_neg (by omega),if_pos h2]
  unfold zbm
  simp only[bd,if_pos hlo]
  refine⟨_,_,rfl,λq=>?_,.inl ⟨by omega,by omega⟩⟩
  grind
 ·unfold zbm
  simp only[bd,if_pos hlo,hg,he,if_true]
  exact⟨_,_,rfl,λ_=>by grind,.inr ⟨rfl,cs,e,ro,hg,he⟩⟩
theorem zfr (lo m:Nat):zbl (.int .i64 (lo:Int)) m=if lo<=m then some lo else none:=by grind[zbl]
theorem zf6.old {P:Program} {h h' : AH} {elem:TypeId} {b n c:Nat} (k:zf6 P h elem b n c) (o:Old h h') (hb:b < h.next):zf6 P h' elem b n c:=by
 rcases k with k | ⟨h1,cs,e,ro,h2,h3⟩
 ·exact .inl k
 ·exact .inr ⟨h1,cs,e,ro,by rw[o.2 b hb]; omega,h3⟩
theorem zaz.cut {h:AH} {b off n sz lo off2:Nat} {cs:List Value} (s:zaz h (some ⟨b,off,none⟩) n sz cs) (hlo:lo<=n) (hoff:lo < n->off2=off+lo * sz):zaz h (some ⟨b,off2,none⟩) (n - lo) sz (cs.drop (lo * sz)):=by
 refine⟨by rw[Q3,s.1,Nat.sub_mul],?_⟩
 by_cases hq:lo < n
 ·rcases s.2 with h0 | ⟨b',off',al,e,ro,hp,hb,hg,hl,hc⟩
  ·omega
  ·have hle:lo * sz<=n * sz:=Qt _ hlo
   grind[List.drop_take,QC]
 omega
theorem zrp {t:Nat} (ht:t<=8):256 ^ t<=18446744073709551616:=by
 have:256 ^ t<=256 ^ 8:=Nat.pow_le_pow_right (by omega) ht
 omega
theorem Old.near {h0 g g' : AH} {b:Nat} (o:Old h0 g) (n:zaZ b g g') (hb:h0.next<=b):Old h0 g':=⟨by rw[n.1]; exact o.1,λc hc=>by rw[n.2 c (by omega),o.2 c hc]⟩
def zxd (g:AH) (F:List Nat) (b:Nat) (cs:List Value) (ty:TypeId):Prop:=g.get b=some (.cells cs ty false)/\b < g.next/\b∉F
theorem zxd.old {g g' : AH} {F:List Nat} {b:Nat} {cs:List Value} {ty:TypeId} (w:zxd g F b cs ty) (o:Old g g'):zxd g' F b cs ty:=⟨(o.2 _ w.2.1).trans w.1,Qi w.2.1 o.1,w.2.2⟩
theorem zbP {g g1:AH} {z vs:List Value} {ty:TypeId} (e:g1=g.alloc (.cells z ty false)) (hl:vs.length=z.length):∃g2,stN g1 g.next 0 vs=some g2/\g2.next=g.next+1/\Old g g2/\∀F:List Nat,(∀c∈F,c < g.next)->zxd g2 F g.next vs ty:=by
 have n:=zam g.next g1 (.cells vs ty false)
 have o1:=zab e
 refine⟨_,zaR (zae e) hl,by simp_all,⟨by simp_all,λc hc=>by rw[n.2 c (by omega),o1.2 c hc]⟩,λF hF=>⟨zaf _ _ _,by simp_all,by grind⟩⟩
theorem zxd.ld {g:AH} {F:List Nat} {b n:Nat} {cs:List Value} {ty:TypeId} (w:zxd g F b cs ty) (hl:cs.length=n):ldN g b 0 n=some cs:=zaw w.1 hl
theorem zbB.near {lim lim' : Nat} {h h' : AH} {elem:TypeId} {sz b:Nat} {p:Option Addr} {n c:Nat} {cs:List Value} (g:zbB lim h elem sz p n c cs) (k:zaZ b h h') (hb:b < lim) (hl:lim'<=lim):zbB lim' h' elem sz p n c cs:=by
 refine⟨g.1,?_⟩
 rcases g.2 with z | ⟨b',hp,h1,h2,h3,h4⟩
 ·grind
 ·exact .inr ⟨b',hp,by omega,by rw[k.1]; omega,by rw[k.2 b' (by omega)]; omega,h4⟩
theorem zbB.block {lim:Nat} {h:AH} {elem:TypeId} {sz:Nat} {p:Option Addr} {n c:Nat} {cs:List Value} (g:zbB lim h elem sz p n c cs) {a:Addr} (e:p=some a):lim<=a.block/\a.block < h.next:=by
 rcases g.2 with ⟨z, -⟩ | ⟨b',hp,h1,h2, -⟩
 all_goals grind
theorem zbB.form {lim:Nat} {h:AH} {elem:TypeId} {sz:Nat} {p:Option Addr} {n c:Nat} {cs:List Value} (g:zbB lim h elem sz p n c cs):p=none\/∃b off,p=some ⟨b,off,none⟩:=by
 rcases g.2 with ⟨z, -⟩ | ⟨b',hp, -⟩
 all_goals grind
theorem zt0 {α:Type} {A:List α} {z:α} {n j:Nat} (hn:A.length=n) (hj:j < n):(A.take j ++ List.replicate (n - j) z).set j (A[j]'(by omega))=A.take (j+1) ++ List.replicate (n - (j+1)) z:=by
 have hl:(A.take j).length=j:=by grind
 rw[List.set_append_right _ _ (by omega),hl,Nat.sub_self,show n - j=(n - (j+1))+1 by omega,List.replicate_succ,List.set_cons_zero,Qv (by omega),QM]
 rfl
def zie (P:Program) (h:AH) (elem:TypeId) (p:Option Addr) (n c:Nat):Prop:=(p=none/\n=0/\c < zai)\/∃b off,p=some ⟨b,off,none⟩/\zf6 P h elem b n c
theorem zie.kept {P:Program} {h h' : AH} {elem:TypeId} {p:Option Addr} {n c:Nat} (k:zie P h elem p n c) (e:∀a,p=some a->h'.get a.block=h.get a.block):zie P h' elem p n c:=by
 rcases k with k | ⟨b,off,rfl,k⟩
 ·exact .inl k
 ·refine .inr ⟨b,off,rfl,?_⟩
  rcases k with k | ⟨h1,cs,e',ro,h2,h3⟩
  ·exact .inl k
  ·exact .inr ⟨h1,cs,e',ro,by grind,h3⟩
theorem zie.old {P:Program} {h h' : AH} {elem:TypeId} {p:Option Addr} {n c:Nat} (k:zie P h elem p n c) (o:Old h h') (hb:∀a,p=some a->a.block < h.next):zie P h' elem p n c:=k.kept λa ha=>o.2 _ (hb a ha)
def zwb:Option Nat->Option Value
 | none=>none
 | some i=>some (.int .i64 (i:Int))
def zhp (n:Nat):Option Nat->Nat
 | none=>n
 | some i=>i
theorem cutP {P:Program} {h:AH} {st elem:TypeId} {sz by' : Nat} (E:za3 P st elem sz by') {p:Option Addr} {n c:Nat} (hsz:P.cellsOf elem=sz) (hc:zie P h elem p n c) (lo hi:Option Nat) (h1:zhp 0 lo<=zhp n hi) (h2:zhp n hi<=n):
 ∃p' c',zay P h st (.slice p n c) (zwb lo) (zwb hi) none=some (.slice p' (zhp n hi - zhp 0 lo) c')/\(∀b off,p=some ⟨b,off,none⟩->∃off',p'= some ⟨b,off',none⟩/\(zhp 0 lo < zhp n hi->off'= off+zhp 0 lo * sz))/\(p=none->p'= none)/\zie P h elem p' (zhp n hi - zhp 0 lo) c':=by
 obtain⟨hu,i,z,hi',hz,hzs,hpos,rfl,rfl⟩:=E
 have b0:∀m,(m=n\/n<=m)->zbm n m (zwb lo) (zwb hi) none=some (zhp 0 lo,zhp n hi,m):=λm hm=>by
  unfold zbm
  cases hi with
  | none=>
    simp only[zwb,zhp] at h1 h2 ⊢
    grind[zfr]
  | some j=>
    simp only[zwb,zhp] at h1 h2 ⊢
    grind[zfr]
 unfold zay
 rw[hu]
 rcases hc with ⟨rfl,rfl,hcc⟩ | ⟨b,off,rfl,hc⟩
 ·simp only[hi',Option.isSome_some,true_and,b0 c (.inr (by omega)),if_pos hcc]
  exact⟨none,_,rfl,by simp,λ_=>rfl,.inl ⟨rfl,by omega,by omega⟩⟩
 ·simp only[hi',Option.isSome_some,if_true]
  rcases hc with ⟨h3,h4⟩ | ⟨rfl,cs,e,ro,hg,he⟩
  ·rw[if_neg (by omega),if_pos h4,b0 c (.inr h3)]
   refine⟨_,_,rfl,λb' off' z=>?_,λz=>(by grind),.inr ⟨b,_,rfl,.inl ⟨by omega,by omega⟩⟩⟩
   grind
  ·rw[if_pos rfl,b0 n (.inl rfl)]
   simp only[hg,he,if_true]
   refine⟨_,_,rfl,λb' off' z=>?_,λz=>(by grind),.inr ⟨b,_,rfl,.inr ⟨rfl,cs,e,ro,hg,he⟩⟩⟩
   grind
theorem zaz.kept {h h' : AH} {p:Option Addr} {n sz:Nat} {cs:List Value} (s:zaz h p n sz cs) (hn:h.next<=h'.next) (k:∀a,p=some a->h'.get a.block=h.get a.block):zaz h' p n sz cs:=by
 refine⟨s.1,?_⟩
 rcases s.2 with h0 | ⟨b,off,al,e,ro,hp,hb,hg,hl,hc⟩
 all_goals grind
theorem zaz.cut2 {h:AH} {p p' : Option Addr} {n sz lo hi:Nat} {cs:List Value} (s:zaz h p n sz cs) (h1:lo<=hi) (h2:hi<=n) (hp:∀b off,p=some ⟨b,off,none⟩->∃off',p'= some ⟨b,off',none⟩/\(lo < hi->off'= off+lo * sz)):
 zaz h p' (hi - lo) sz ((cs.drop (lo * sz)).take ((hi - lo) * sz)):=by
 have hle:hi * sz<=n * sz:=Qt _ h2
 have hm:(hi - lo) * sz=hi * sz - lo * sz:=Nat.sub_mul _ _ _
 refine⟨by rw[Jm,Q3,s.1,hm]; omega,?_⟩
 by_cases hq:lo < hi
 ·rcases s.2 with h0 | ⟨b,off,al,e,ro,rfl,hb,hg,hl,hc⟩
  ·omega
  ·have hlo:lo * sz<=hi * sz:=Qt _ h1
   grind[List.drop_take,QC]
 omega
theorem zrq {P:Program} {h:AH} {t elem:TypeId} {by' : Nat} (E:za3 P t elem 1 by') {b n c:Nat} {cs:List Value} {e:TypeId} (hb:h.get b=some (.cells cs e false)) (hle:cs.length=n)
 {p:Option Addr} {m c' : Nat} {ns:List Value} (hs:zaz h p m 1 ns) (hp:p=none\/∃b off,p=some ⟨b,off,none⟩) (hnm:n<=m) (st:TypeId):
 ∃i h',zak P h .copy #[t,st] [.slice (some ⟨b,0,none⟩) n c,.slice p m c']=some (.int .i64 i,h')/\zaZ b h h'/\h'.get b=some (.cells (ns.take n) e false):=by
 by_cases hn:0 < n
 ·obtain⟨h',k,nr,g⟩:=ztW E (off:=0) (n:=n) (c:=c) hb (by omega) hn hs hp (c':=c') st
  have hl:(ns.take n).length=n:=by rw[Jm,hs.1]; omega
  grind
 ·obtain rfl:n=0:=by omega
  obtain⟨hu,i,z,hi,hz,hzs,hpos,hsz,hby⟩:=E
  have hfc:firstC h i.size 0 (.slice p m c')=some []:=by grind[firstC]
  refine⟨((0:Nat):Int),h,?_,zaZ.refl _ _,by grind⟩
  show (match zc4 P h t (.slice (some ⟨b,0,none⟩) 0 c) (.slice p m c') with | x=>x)=_
  unfold zc4
  grind[zjd]
theorem za1.app {P:Program} {lim:Nat} {h:AH} {st elem:TypeId} {sz by' : Nat} {b n c:Nat} {cs:List Value} (g:za1 lim h elem sz b n c cs) (E:za3 P st elem sz by')
 {x:Value} {m:Nat} {ns:List Value} (hx:zjd x=some m) (hfn:firstC h sz m x=some ns) (hns:ns.length=m * sz) (hroom:n+m<=c):
 ∃h',zak P h .append #[st,st] [.slice (some ⟨b,0,none⟩) n c,x]=some (.slice (some ⟨b,0,none⟩) (n+m) c,h')/\za1 lim h' elem sz b (n+m) c (cs ++ ns)/\zaZ b h h':=by
 have gs:=g.shows
 obtain⟨h1,h2,h3,h4',h5,rest,h6,h7⟩:=g
 obtain⟨hu,i,z,hi,hz,hzs,hpos,rfl,rfl⟩:=E
 have hfc:firstC h i.size n (.slice (some ⟨b,0,none⟩) n c)=some cs:=gs.firstC (.inr ⟨b,0,rfl⟩)
 rw[Qs] at h7
 have hns2:ns.length<=rest.length:=by
  have:(n+m) * i.size<=c * i.size:=Qt _ hroom
  rw[QQ] at this
  omega
 cases m with
 | zero=>
   have:ns=[]:=by simpa using hns
   subst this
   refine⟨h,?_,⟨by simpa using h1,h2,h3,h4',h5,rest,by simpa using h6,by simpa using h7⟩,rfl,λ_ _=>rfl⟩
   rw[zaO hu]
   unfold zaM
   simp only[hu,hi,hx,hfc,hfn,hz]
   rw[if_pos ⟨hzs,hpos,hns,h1⟩,if_neg (by omega),if_pos hroom]
   rfl
 | succ m'=>
   refine⟨h.set b (.cells (cs ++ ns ++ rest.drop ns.length) elem false),?_,⟨by rw[Qs,h1,hns,<-QQ],h2,h3,hroom,h5,rest.drop ns.length,zaf _ _ _,?_⟩,rfl,λx hx=>zal hx⟩
   ·rw[zaO hu]
    unfold zaM
    simp only[hu,hi,hx,hfc,hfn,hz]
    rw[if_pos ⟨hzs,hpos,hns,h1⟩,if_neg (by omega),if_pos hroom]
    have:zap h b (0+n * i.size) ns=some (h.set b (.cells (cs ++ ns ++ rest.drop ns.length) elem false)):=by
     unfold zap
     rw[h6]
     simp only
     rw[if_pos (by rw[Qs]; omega),Qq,<-h1,List.take_left,QL]
     rw[QH (by omega),QR,show cs.length+ns.length - cs.length=ns.length by omega]
    rw[this]
   ·rw[Qs,Qs,Q3]; omega
theorem zbB.cutQ {P:Program} {lim:Nat} {h:AH} {elem:TypeId} {sz:Nat} {p:Option Addr} {n c:Nat} {cs:List Value} (g:zbB lim h elem sz p n c cs) (hn:n < zai):zie P h elem p n c:=by
 rcases g.2 with ⟨h1,h2,h3⟩ | ⟨b,h1, -, -,h4,h5⟩
 ·exact .inl ⟨h1,h2,by omega⟩
 ·refine .inr ⟨b,0,h1,?_⟩
  rcases h5 with h5 | h5
  ·exact .inr ⟨h5,_,_,_,h4,rfl⟩
  ·exact .inl ⟨by omega,by omega⟩
theorem zt1 (x:Nat):zaV .shr .u64 (x:Int) 1=some (.int .u64 ((x / 2:Nat):Int)):=by
 unfold zaV
 rw[if_neg (by omega)]
 have h1:min ((1:Int)).toNat (IntKind.bits .u64)=1:=by decide
 simp only[h1]
 congr 2
 rw[Int.fdiv_eq_ediv_of_nonneg _ (by decide)]
 omega
section
variable {P:Program} {K:Xs} {h h' : AH}
def LtH (h:AH):Prop:=∀b o,h.get b=some o->b < h.next
theorem LtH.alloc (z:LtH h) {o:zca}:LtH (h.alloc o):=λb q e=>by
 rw[AH.get_alloc] at e
 rw[AH.next_alloc]
 split at e
 ·omega
 ·have:=z b q e; omega
theorem LtH.del (z:LtH h) {b:Nat}:LtH (h.del b):=λc q e=>by
 rw[AH.get_del] at e
 split at e
 ·grind
 ·exact z c q e
theorem LtH.set (z:LtH h) {b:Nat} {o o' : zca} (hb:h.get b=some o):LtH (h.set b o'):=λc q e=>by
 rw[AH.get_set] at e
 split at e
 ·rename_i hc; exact z c o (hc▸hb)
 ·exact z c q e
theorem LtH.killV (z:LtH h) (v:Value):LtH (killV h v):=by
 unfold Am.killV
 grind[del]
theorem LtH.preKill (z:LtH h) (ks:List Tmp) (d:Option Tmp) (e:Env):LtH (preKill ks d e h):=by
 unfold Am.preKill
 grind[killV]
theorem zbQ {b off:Nat} {vs:List Value} (hs:zap h b off vs=some h'):LtH h->LtH h':=by grind[zap,LtH.set]
theorem zrr {st:TypeId} {xi:Bool} {s x v:Value} (hs:zaM P h st xi s x=some (v,h')):LtH h->LtH h':=by
 unfold zaM at hs
 repeat' split at hs
 all_goals first | (simp at hs; done) | skip
 all_goals grind[LtH.alloc,LtH.del,zbQ]
theorem zwc {st:TypeId} {d s v:Value} (hs:zc4 P h st d s=some (v,h')):LtH h->LtH h':=by
 unfold zc4 at hs
 repeat' split at hs
 all_goals first | (simp at hs; done) | skip
 all_goals grind[zbQ]
theorem zt2 {t:TypeId} {x v:Value} (hs:ze9 P h t x=some (v,h')):LtH h->LtH h':=by
 unfold ze9 at hs
 grind[zbQ]
theorem zrs {t:TypeId} {m k v:Value} (hs:zeT P h t m k=some (v,h')):LtH h->LtH h':=by
 unfold zeT at hs
 grind[LtH.set]
theorem zrt {t:TypeId} {m k v:Value} (hs:zba P h t m k v=some h'):LtH h->LtH h':=by
 unfold zba at hs
 grind[LtH.set]
theorem zl3 {t:TypeId} {l c v:Value} (hs:zaX P h t l c=some (v,h')):LtH h->LtH h':=by
 unfold zaX at hs
 grind[LtH.alloc]
theorem zkC {t:TypeId} {n:Nat} {ps:Array (Nat×Value)} {v:Value} (hs:zar P h t n ps=some (v,h')):LtH h->LtH h':=by grind[zar,LtH.alloc]
theorem zpP {s d:TypeId} {x v:Value} (hs:zav P h s d x=some (v,h')):LtH h->LtH h':=by
 unfold zav at hs
 grind[LtH.alloc,LtH.set]
theorem zt3 {t:TypeId} {a v:Value} (hs:zbM P h t a v=some h'):LtH h->LtH h':=by
 unfold zbM at hs
 grind[zbQ]
theorem zjM {b:Builtin} {ats:Array TypeId} {args:List Value} {v:Value} (hs:zak P h b ats args=some (v,h')):LtH h->LtH h':=by
 unfold zak at hs
 split at hs
 ·grind[Qk]
 ·grind[Qk]
 ·split at hs
  ·unfold zeh at hs
   grind[LtH.alloc]
  grind[zrr]
 all_goals grind[zwc,zt2,zrs,Qk]
theorem zzx {o:Oper} {e:Env} {v:Value} (hs:aOp P o e h=some (v,h')):LtH h->LtH h':=by
 obtain⟨dst,op,type,pos,after,guard⟩:=o
 cases op <;> simp only[aOp] at hs
 case typeAssert x xt t ok=>grind
 case makeInterface t x=>grind
 all_goals first
  | (simp at hs; done)
  | (obtain⟨_,_,hq⟩:=Qk.1 hs; cases hq; exact id)
  | (obtain⟨_,rfl⟩:=hs; exact id)
  | exact zl3 hs
  | exact zkC hs
  | exact zpP hs
  | (obtain⟨h2,hst,hq⟩:=Qk.1 hs; cases hq; exact zt3 hst)
  | (obtain⟨h2,hst,hq⟩:=Qk.1 hs; cases hq; exact zrt hst)
  | skip
 case call c=>grind[zjM]
 case next it st=>grind[LtH.set]
 all_goals
  repeat' split at hs
 all_goals first
  | (simp at hs; done)
  | (obtain⟨_,rfl⟩:=hs; (intro z; first | exact z | exact z.alloc | exact z.set (by assumption) | exact z.del.alloc | exact zbQ (by assumption) z))
  | (obtain⟨_,_,hq⟩:=Qk.1 hs; cases hq; exact id)
  | (obtain⟨_,hs⟩:=zhE hs; obtain⟨_,_,hq⟩:=Qk.1 hs; cases hq; exact id)
def zzy (r:Ex):Prop:=∀rd ks c e h x e' h',r rd ks c e h=some (x,e',h')->LtH h->LtH h'
section
variable {r:Ex} (M:zzy r) (KL:∀f x,K f=some (.ext x)\/K f=some (.sum x)->∀args h v h',x args h=some (v,h')->LtH h->LtH h')
include M KL
omit KL in
theorem zt4 {f:FuncId} {args:List Value} {v:Value} (hs:zeU P r f args h=some (v,h')):LtH h->LtH h':=by
 unfold zeU at hs
 split at hs
 rotate_left
 ·simp at hs
 split at hs
 rotate_left
 ·simp at hs
 split at hs
 ·rename_i hr
  split at hs
  ·simp only[Qa,Qf] at hs
   obtain⟨_,rfl⟩:=hs
   exact M _ _ _ _ _ _ _ _ hr
  ·simp at hs
 ·rename_i hr
  split at hs
  ·simp only[Qa,Qf] at hs
   obtain⟨_,rfl⟩:=hs
   exact M _ _ _ _ _ _ _ _ hr
  ·simp at hs
 ·simp at hs
theorem zhq {f:FuncId} {args:List Value} {v:Value} (hs:zbJ P K r f args h=some (v,h')):LtH h->LtH h':=by
 unfold zbJ at hs
 split at hs
 ·rename_i hk
  exact KL _ _ (.inr hk) _ _ _ _ (zcn hs).2
 all_goals grind[zt4]
theorem zt5 {f:FuncId} {args:List Value} {v:Value} (hs:zdQ P K r f args h=some (v,h')):LtH h->LtH h':=by
 unfold zdQ at hs
 split at hs
 ·rename_i hk
  exact KL _ _ (.inl hk) _ _ _ _ (zcn hs).2
 ·exact zhq M KL hs
omit KL in
theorem zru {l:Nat} {args:List Value} {v:Value} (hs:zc6 r l args h=some (v,h')):LtH h->LtH h':=by
 unfold zc6 at hs
 split at hs
 rotate_left
 ·simp at hs
 split at hs
 rotate_left
 ·simp at hs
 split at hs
 rotate_left
 ·simp at hs
 rename_i h1
 split at hs
 rotate_left
 ·simp at hs
 split at hs
 rotate_left
 ·simp at hs
 split at hs
 rotate_left
 ·simp at hs
 rename_i h2
 split at hs
 rotate_left
 ·simp at hs
 have a1:=M _ _ _ _ _ _ _ _ h1
 have a2:=M _ _ _ _ _ _ _ _ h2
 split at hs <;>
 ·simp only[Qa,Qf] at hs
  obtain⟨_,rfl⟩:=hs
  exact λz=>(a2 ((a1 z).set (by assumption))).set (by assumption)
theorem zpQ {f:Value} {args:List Value} {v:Value} (hs:zcs P K r f args h=some (v,h')):LtH h->LtH h':=by
 unfold zcs at hs
 split at hs
 ·exact zt5 M KL hs
 all_goals grind[zru]
theorem zoH {o:Oper} {e:Env} {v:Value} (hs:runOp P K r o e h=some (v,h')):LtH h->LtH h':=by
 unfold runOp at hs
 split at hs
 ·exact zpQ M KL hs
 grind[zzx]
theorem zif {ks:List Tmp} {ops:Array Oper}:∀{os:List Oper} {e e' : Env} {h h' : AH},zbj P K r ks ops os e h=some (e',h')->LtH h->LtH h'
 | [],e,e',h,h',hs=>by grind[zbj]
 | o :: os,e,e',h,h',hs=>by
   unfold zbj at hs
   split at hs
   ·split at hs
    ·rename_i hr
     have a1:=zoH M KL hr
     exact λz=>zif hs (a1 (z.preKill _ _ _))
    grind
   ·exact zif hs
   grind
theorem znv {ops:Array Oper}:∀{os:List Nat} {e:Env} {h:AH} {l:List (Env×AH)},zcU P K r ops os e h=some l->∀y,l.getLast?= some y->LtH h->LtH y.2
 | [],e,h,l,hr,y,hy=>by grind[zcU]
 | j :: js,e,h,l,hr,y,hy=>by
   have ne:∀{os:List Nat} {e:Env} {h:AH} {l:List (Env×AH)},zcU P K r ops os e h=some l->l≠[]:=by
    intro os e h l hq
    cases os with
    | nil=>grind[zcU]
    | cons a os=>
      unfold zcU at hq
      grind
   unfold zcU at hr
   split at hr
   rotate_left
   ·grind
   split at hr
   ·split at hr
    ·rename_i v h1 hr1
     have n1:=zoH M KL hr1
     split at hr
     ·rename_i l2 hl2
      simp only[Qa] at hr
      subst hr
      rw[List.getLast?_cons_of_ne_nil (ne hl2)] at hy
      exact λz=>znv hl2 y hy (n1 z)
     grind
    grind
   ·split at hr
    ·rename_i l2 hl2
     simp only[Qa] at hr
     subst hr
     rw[List.getLast?_cons_of_ne_nil (ne hl2)] at hy
     exact znv hl2 y hy
    grind
   grind
theorem zrv {ops:Array Oper} {e e' : Env} (hs:zcb P K r ops e h=some (e',h')):LtH h->LtH h':=by
 unfold zcb at hs
 split at hs
 rotate_left
 ·grind
 split at hs
 rotate_left
 ·grind
 rename_i hl
 split at hs
 rotate_left
 ·grind
 exact znv M KL hl _ hs
theorem zl4 {f:Value} {l:Nat} {v:Value} (hs:zbp P K r f l h=some (v,h')):LtH h->LtH h':=by
 unfold zbp at hs
 split at hs
 ·exact zhq M KL hs
 grind
theorem zpR {ks:List Tmp} {f:Operand} {ps:List Tmp} {asx bd:Code} {e e' : Env} {x:AX} (hs:zct P K r ks f ps asx bd e h=some (x,e',h')):LtH h->LtH h':=by
 unfold zct at hs
 split at hs
 rotate_left
 ·grind
 rename_i hi
 have a1:=zl4 M KL hi
 grind[LtH.alloc,LtH.del]
theorem zrw:zzy (zaK P K r):=by
 intro rd ks c e h x e' h' hs
 unfold zaK at hs
 split at hs
 ·grind
 ·grind
 ·split at hs
  ·split at hs
   ·rename_i hr
    obtain⟨_,_,rfl⟩:=hs
    exact zif M KL hr
   grind
  ·split at hs
   ·rename_i hr
    obtain⟨_,_,rfl⟩:=hs
    exact zrv M KL hr
   grind
 ·split at hs
  ·rename_i hr
   exact λz=>M _ _ _ _ _ _ _ _ hs (M _ _ _ _ _ _ _ _ hr z)
  ·exact M _ _ _ _ _ _ _ _ hs
 ·split at hs
  ·rename_i t _
   cases t
   ·exact M _ _ _ _ _ _ _ _ hs
   ·exact M _ _ _ _ _ _ _ _ hs
  grind
 ·split at hs
  ·rename_i id' _ _ hr
   have:=M _ _ _ _ _ _ _ _ hr
   grind
  ·exact M _ _ _ _ _ _ _ _ hs
 ·split at hs
  ·rename_i hr
   exact λz=>M _ _ _ _ _ _ _ _ hs (M _ _ _ _ _ _ _ _ hr z)
  ·exact M _ _ _ _ _ _ _ _ hs
 ·exact M _ _ _ _ _ _ _ _ hs
 ·grind
 ·grind
 ·split at hs
  ·grind
  ·exact zpR M KL hs
 all_goals grind
end
theorem zzz (KL:∀f x,K f=some (.ext x)\/K f=some (.sum x)->∀args h v h',x args h=some (v,h')->LtH h->LtH h'):∀n,zzy (ex P K n)
 | 0=>λ_ _ _ _ _ _ _ _ hs=>by grind[ex]
 | n+1=>zrw (zzz KL n) KL
end
end Go.Am
