/-
  Texts of this proof, part 15. No condition.
-/
import Derived.Test.YtmnbboleclchcaaGreatFAm9a
set_option linter.unusedVariables false
set_option linter.unusedSimpArgs false
namespace Go.Am
section
open Go.ChangeShapes Go.WideShapes
section
variable {P:Program} {w:World} {φ:Fi} {h:AH} {H:Type} {enc:TypeId×Value->H}
def RdV (P:Program) (h:AH) (g:Nat) (t:TypeId) (v:Value):Prop:=match P.underlying t with
 | some (.struct _) | some (.array _ _)=>∃cs,v=.agg cs.toArray/\Rd P h g t cs
 | _=>Rd P h g t [v]
def RdA (P:Program) (h:AH) (g:Nat):List TypeId->List Value->Prop
 | [],[]=>True
 | t :: ts,v :: vs=>RdV P h g t v/\RdA P h g ts vs
 | _,_=>False
theorem RdV.mono {h' : AH} (o:Old h h') {g:Nat} {t:TypeId} {v:Value} (k:RdV P h g t v):RdV P h' g t v:=by grind[RdV,Rd.mono]
theorem zv1 {held:Bool} {base:Nat} {g:Nat} {t:TypeId} {v:Value} {d:DataW H} {ps:List MemPlace} (ho:okT P g t=true) (hv:Value.okWide P w .any base t v) (ht:DataW.Trod enc P w 0 (λ_=>true) held t v d ps) (hwt:(d.weights P t).all (·<=reachBytes)=true) (s:St P φ h w):
 ∃φ' h' a,Ext P w φ h φ' h'/\VR φ' a v/\RdV P h' g t a:=by
 obtain⟨fuel,hx⟩:=ht
 obtain⟨φ',h',acs,e,l,r⟩:=ztV g t _ φ h ho ⟨fuel,_,hx,hwt⟩ s
 unfold Value.okWide at hv
 unfold RdV
 have agg:(∃cs:Array Value,v=.agg cs)->∃φ' h' a,Ext P w φ h φ' h'/\VR φ' a v/\∃cs,a=.agg (List.toArray cs)/\Rd P h' g t cs:=by grind[LR.agg,Value.cells]
 have scal:(∀cs:Array Value,v≠.agg cs)->∃φ' h' a,Ext P w φ h φ' h'/\VR φ' a v/\Rd P h' g t [a]:=by
  intro hn
  have hc:v.cells.toList=[v]:=by
   cases v <;> first | rfl | grind
  rw[hc] at l
  match acs,l,r with
  | [a],l,r=>exact⟨φ',h',a,e,l.1,r⟩
 cases g with
 | zero=>grind[okT]
 | succ g=>
   unfold okT at ho
   cases hu:P.underlying t with
   | none=>grind
   | some dd=>
     have sc:(∀cs:Array Value,v=.agg cs->False)->∃φ' h' a,Ext P w φ h φ' h'/\VR φ' a v/\Rd P h' (g+1) t [a]:=λz=>scal z
     cases dd with
     | bool=>exact sc λcs hcs=>by subst hcs; simp[hu,Cell.okWide,Cell.ok] at hv
     | int _=>exact sc λcs hcs=>by subst hcs; simp[hu,Cell.okWide,Cell.ok] at hv
     | string=>exact sc λcs hcs=>by subst hcs; simp[hu,Cell.okWide,Cell.ok] at hv
     | slice _=>exact sc λcs hcs=>by subst hcs; simp[hu,Cell.okWide,Cell.ok] at hv
     | struct _=>exact agg (by grind)
     | array _ _=>exact agg (by grind)
     | _=>grind
theorem zoE {base g:Nat}:∀{ts:List TypeId} {vs:List Value} {ds:List (DataW H)} {ps:List MemPlace} {φ:Fi} {h:AH},ts.all (okT P g)=true->(∀(j:Nat) t v,ts[j]?= some t->vs[j]?= some v->Value.okWide P w .any base t v)->
 DataW.TrodAll enc P w 0 (λ_=>true) true ts vs ds ps->(DataW.weightsEach P ts ds).all (·<=reachBytes)=true->St P φ h w->∃φ' h' as,Ext P w φ h φ' h'/\AR φ' as vs/\RdA P h' g ts as
 | [],[],[],ps,φ,h,_,_,_,_,s=>⟨φ,h,[],Ext.refl s,trivial,trivial⟩
 | t :: ts,v :: vs,d :: ds,ps,φ,h,ho,hv,⟨p,q,h1,h2,_⟩,hw,s=>by
   rw[DataW.weightsEach,List.all_append,Qd] at hw
   simp only[List.all_cons,Qd] at ho
   obtain⟨φ1,g1,a,e1,r1,k1⟩:=zv1 ho.1 (hv 0 t v rfl rfl) h1 hw.1 s
   obtain⟨φ2,g2,as,e2,r2,k2⟩:=zoE ho.2 (λj t' v' q1 q2=>hv (j+1) t' v' q1 q2) h2 hw.2 e1.st
   exact⟨φ2,g2,a :: as,e1.trans e2,⟨r1.mono e2.le,r2⟩,k1.mono e2.old,k2⟩
theorem zor.sameAt {w w' : World} (k:zor w w') {p:MemPlace} (hp:p.block < w.heap.size):w.sameAt w' p:=by
 obtain⟨-, -, -,k⟩:=k
 cases p with
 | cell b off=>
   have:=k b hp
   show w'.cell? ⟨b,off,none⟩=w.cell? ⟨b,off,none⟩
   grind[World.cell?]
 | map b=>exact k b hp
theorem zgT (hl:laidOutB P=true) {W' : World} {sp:Nat->Bool} (hk:zor w W'):∀{ts:List TypeId} {vs:List Value} {ds:List (DataW H)} {ps:List MemPlace},
 ts.all (λt=>P.readableRec t && Nat.blt t P.types.size)=true->DataW.TrodAll enc P w 0 (λ_=>true) true ts vs ds ps->(∀p∈ps,p.block < w.heap.size)->(∀p∈ps,sp p.block=true)->DataW.TrodAll enc P W' 0 sp true ts vs ds ps
 | [],[],[],ps,_,k,_,_=>k
 | t :: ts,v :: vs,d :: ds,ps,ho,⟨p,q,h1,h2,he⟩,hlt,hsp=>by
   subst he
   simp only[List.all_cons,Qd,Q3] at ho
   exact⟨p,q,by grind[WideElems.Trod_stays,zor.sameAt],
    zgT hl hk ho.2 h2 (by grind) (by grind),rfl⟩
theorem zia {base:Nat} {sp:Nat->Bool} {held:Bool}:∀{ts:List TypeId} {vs:List Value} {ds:List (DataW H)} {ps:List MemPlace},DataW.TrodAll enc P w base sp held ts vs ds ps->ds.length=ts.length
 | [],[],[],_,_=>rfl
 | _ :: ts,_ :: vs,_ :: ds,_,⟨_,_,_,h,_⟩=>by simp[zia h]
end
end
def za1 (lim:Nat) (h:AH) (elem:TypeId) (sz b n c:Nat) (cs:List Value):Prop:=
 cs.length=n * sz/\lim<=b/\b < h.next/\n<=c/\c < zai/\∃rest,h.get b=some (.cells (cs ++ rest) elem false)/\(cs ++ rest).length=c * sz
theorem za1.shows {lim:Nat} {h:AH} {elem:TypeId} {sz b n c:Nat} {cs:List Value} (g:za1 lim h elem sz b n c cs):zaF h (some ⟨b,0,none⟩) n sz cs:=by
 obtain⟨h1,h2,h3,h4,h5,rest,h6,h7⟩:=g
 refine⟨h1,.inr ⟨b,0,_,elem,false,rfl,h3,h6,by grind,?_⟩⟩
 grind
theorem za1.old {lim:Nat} {h h' : AH} {elem:TypeId} {sz b n c:Nat} {cs:List Value} (g:za1 lim h elem sz b n c cs) (o:Old h h'):za1 lim h' elem sz b n c cs:=by
 obtain⟨h1,h2,h3,h4,h5,rest,h6,h7⟩:=g
 exact⟨h1,h2,Qh h3 o.1,h4,h5,rest,by rw[o.2 b h3,h6],h7⟩
theorem za1.make {h h1:AH} {elem:TypeId} {sz c:Nat} {al:List Value} (e:h1=h.alloc (.cells al elem false)) (hl:al.length=c * sz) (hc:c < zai):za1 h.next h1 elem sz h.next 0 c []:=by
 subst e
 exact⟨by simp,Qc _,Jb _,Qf _,hc,al,zao _ _,hl⟩
theorem za1.push {P:Program} {lim:Nat} {h h4:AH} {st elem:TypeId} {sz by' : Nat} {b n c:Nat} {cs:List Value} (g:za1 lim h elem sz b n c cs) (E:za5 P st elem sz by')
 {m:Nat} {ns:List Value} (e4:h4=h.alloc (.cells ns elem false)) (hns:ns.length=m * sz) (hm:0 < m) (hroom:n+m<=c):
 ∃h',zak P h4 .append #[st,st] [.slice (some ⟨b,0,none⟩) n c,.slice (some ⟨h.next,0,none⟩) m m]=some (.slice (some ⟨b,0,none⟩) (n+m) c,h')/\za1 lim h' elem sz b (n+m) c (cs ++ ns)/\h'.next=h.next+1/\∀x,x < h.next->x≠b->h'.get x=h.get x:=by
 have gs:=(g.old (h':=h4) (by grind[za2])).shows
 obtain⟨h1,h2,h3,h4',h5,rest,h6,h7⟩:=g
 obtain⟨hu,i,z,hi,hz,hzs,hpos,rfl,rfl⟩:=E
 have hfc:firstC h4 i.size n (.slice (some ⟨b,0,none⟩) n c)=some cs:=by grind[zaF.firstC]
 have hfn:firstC h4 i.size m (.slice (some ⟨h.next,0,none⟩) m m)=some ns:=zeh e4 hns
 have hb4:h4.get b=some (.cells (cs ++ rest) elem false):=by grind[zbx]
 have hns2:ns.length<=rest.length:=by
  have:(n+m) * i.size<=c * i.size:=Qt _ hroom
  grind
 refine⟨h4.set b (.cells (cs ++ ns ++ rest.drop ns.length) elem false),?_,⟨by grind,h2,?_,hroom,h5,rest.drop ns.length,zaf _ _ _,?_⟩,by simp_all,by grind[zal,zbx]⟩
 ·rw[zaO hu]
  unfold zaN
  simp only[hu,hi,zi5,hfc,hfn,hz]
  have:zap h4 b (0+n * i.size) ns=some (h4.set b (.cells (cs ++ ns ++ rest.drop ns.length) elem false)):=by
   unfold zap
   rw[hb4]
   simp only
   rw[if_pos (by grind),Qq,<-h1,List.take_left,QO]
   grind[QI]
  grind
 ·rw[e4]; show b < h.next+1; omega
 grind
def byB (w n:Nat):List Nat:=(List.range w).map λk=>n / 256 ^ k % 256
theorem zdz (w n:Nat):(byB w n).length=w:=by simp[byB]
theorem ztW (w n:Nat):byB (w+1) n=byB w n ++ [n / 256 ^ w % 256]:=by grind[byB,List.range_succ]
theorem zoF {w n x:Nat} (hx:x∈byB w n):x < 256:=by grind[byB]
def enc (ws ns:List Nat):List Nat:=(List.zipWith byB ws ns).flatten
theorem zhm (w n:Nat) (ws ns:List Nat):enc (w :: ws) (n :: ns)=byB w n ++ enc ws ns:=rfl
theorem zrk:∀(ws ns:List Nat) (w n:Nat),ws.length=ns.length->enc (ws ++ [w]) (ns ++ [n])=enc ws ns ++ byB w n
 | [],[],w,n,_=>by simp[enc]
 | a :: ws,b :: ns,w,n,hl=>by
   rw[List.cons_append,List.cons_append,zhm,zhm,zrk ws ns w n (by grind),QP]
theorem znp:∀(ws ns:List Nat),ws.length=ns.length->(enc ws ns).length=ws.sum
 | [],[],_=>rfl
 | a :: ws,b :: ns,hl=>by rw[zhm,Qs,zdz,znp ws ns (by grind),List.sum_cons]
theorem zoG:∀(ws ns:List Nat) {x:Nat},x∈enc ws ns->x < 256
 | [],_,_,h=>by simp[enc] at h
 | _ :: _,[],_,h=>by simp[enc] at h
 | a :: ws,b :: ns,x,h=>by
   rw[zhm,QE] at h
   exact h.elim zoF (zoG ws ns)
def deB:List Nat->Nat
 | []=>0
 | b :: bs=>b+256 * deB bs
theorem znq:∀(bs:List Nat) (b:Nat),deB (bs ++ [b])=deB bs+b * 256 ^ bs.length
 | [],b=>by simp[deB]
 | x :: bs,b=>by
   show x+256 * deB (bs ++ [b])=x+256 * deB bs+b * 256 ^ (bs.length+1)
   have e:b * 256 ^ (bs.length+1)=256 * (b * 256 ^ bs.length):=by grind
   rw[znq bs b,Nat.mul_add,e]
   omega
theorem zrl:∀(bs:List Nat),(∀x∈bs,x < 256)->deB bs < 256 ^ bs.length
 | [],_=>by decide
 | x :: bs,h=>by
   have h1:=h x (by simp)
   have h2:=zrl bs λy hy=>h y (by grind)
   grind[deB]
def dec:List Nat->List Nat->List Nat
 | [],_=>[]
 | w :: ws,bs=>deB (bs.take w) :: dec ws (bs.drop w)
theorem znr:∀(ws bs:List Nat),(dec ws bs).length=ws.length
 | [],_=>rfl
 | w :: ws,bs=>by simp[dec,znr ws]
theorem zrm:∀(ws:List Nat) (w:Nat) (bs:List Nat),dec (ws ++ [w]) bs=dec ws bs ++ [deB ((bs.drop ws.sum).take w)]
 | [],w,bs=>by rfl
 | a :: ws,w,bs=>by
   show deB (bs.take a) :: dec (ws ++ [w]) (bs.drop a)=_
   rw[zrm ws w,QB,List.sum_cons]
   rfl
theorem zzg (k:Nat):2 ^ (8 * k)=256 ^ k:=by rw[Nat.pow_mul]
theorem zrn {x k:Nat} (hk:k<=8):zaT .shr .u64 (x:Int) ((8 * k:Nat):Int)=some (.int .u64 ((x / 256 ^ k:Nat):Int)):=by
 unfold zaT
 have h1:min (((8 * k:Nat):Int)).toNat (IntKind.bits .u64)=8 * k:=by
  exact Nat.min_eq_left (by show 8 * k<=64; omega)
 simp only[h1]
 rw[Int.fdiv_eq_ediv_of_nonneg _ (by grind),<-zzg]
 rfl
theorem zv2 {x k:Nat} (hk:k<=8) (hx:x * 256 ^ k < 18446744073709551616):zaT .shl .u64 (x:Int) ((8 * k:Nat):Int)=some (.int .u64 ((x * 256 ^ k:Nat):Int)):=by
 unfold zaT
 have h1:min (((8 * k:Nat):Int)).toNat (IntKind.bits .u64)=8 * k:=by
  exact Nat.min_eq_left (by show 8 * k<=64; omega)
 have e:(x:Int) * 2 ^ (8 * k)=((x * 256 ^ k:Nat):Int):=by rw[<-zzg]; rfl
 grind[zkh]
theorem zxo {a b k:Nat} (hk:k<=8) (ha:a < 256 ^ k) (hb:b * 256 ^ k+a < 18446744073709551616):zgI .or .u64 (a:Int) ((b * 256 ^ k:Nat):Int)=some (.int .u64 ((a+b * 256 ^ k:Nat):Int)):=by
 unfold zgI
 have h1:BitVec.ofInt (IntKind.bits .u64) (a:Int)=BitVec.ofNat 64 a:=by rfl
 have h2:BitVec.ofInt (IntKind.bits .u64) ((b * 256 ^ k:Nat):Int)=BitVec.ofNat 64 (b * 256 ^ k):=by rfl
 have h3:(BitVec.ofNat 64 a ||| BitVec.ofNat 64 (b * 256 ^ k)).toNat=a+b * 256 ^ k:=by
  rw[BitVec.toNat_or,Ji,Ji,QY (by omega),QY (by omega)]
  rw[<-zzg] at ha ⊢
  grind[Nat.mul_comm,Nat.two_pow_add_eq_or_of_lt]
 grind[BitVec.toNat,zkh]
theorem ztX (n:Nat):IntKind.u8.wrap (n:Int)=((n % 256:Nat):Int):=by rfl
theorem zkr {ws:List Nat} {j:Nat} (hj:j < ws.length):(ws.take (j+1)).sum=(ws.take j).sum+ws[j]:=by grind[Qv]
theorem zcx:∀(ws:List Nat) (j:Nat),(ws.take j).sum<=ws.sum
 | [],j=>by simp
 | w :: ws,0=>by simp
 | w :: ws,j+1=>by
   have:=zcx ws j
   grind
def zf6 (P:Program) (h:AH) (elem:TypeId) (b n c:Nat):Prop:=(n<=c/\c < zai)\/(c=zai/\∃cs e ro,h.get b=some (.cells cs e ro)/\P.cellsOf e=P.cellsOf elem)
theorem zro {P:Program} {h:AH} {st elem:TypeId} {sz by' : Nat} (E:za5 P st elem sz by') {b off n c lo:Nat} (hsz:P.cellsOf elem=sz) (hc:zf6 P h elem b n c) (hlo:lo<=n):
 ∃off' c',zau P h st (.slice (some ⟨b,off,none⟩) n c) (some (.int .i64 (lo:Int))) none none=some (.slice (some ⟨b,off',none⟩) (n - lo) c')/\(lo < n->off'= off+lo * sz)/\zf6 P h elem b (n - lo) c':=by
 obtain⟨hu,i,z,hi,hz,hzs,hpos,rfl,rfl⟩:=E
 unfold zau
 rw[hu]
 simp only[hi,Option.isSome_some,if_true]
 have bd:∀m,zbj (.int .i64 (lo:Int)) m=if lo<=m then some lo else none:=by grind[zbj]
 rcases hc with ⟨h1,h2⟩ | ⟨rfl,cs,e,ro,hg,he⟩
 ·rw[if_neg (by omega),if_pos h2]
  unfold zbk
  simp only[bd,if_pos hlo]
  refine⟨_,_,rfl,λq=>?_,.inl ⟨by omega,by omega⟩⟩
  grind
 ·unfold zbk
  simp only[bd,if_pos hlo,hg,he,if_true]
  exact⟨_,_,rfl,λ_=>by grind,.inr ⟨rfl,cs,e,ro,hg,he⟩⟩
theorem zfs (lo m:Nat):zbj (.int .i64 (lo:Int)) m=if lo<=m then some lo else none:=by grind[zbj]
theorem zf6.old {P:Program} {h h' : AH} {elem:TypeId} {b n c:Nat} (k:zf6 P h elem b n c) (o:Old h h') (hb:b < h.next):zf6 P h' elem b n c:=by
 rcases k with k | ⟨h1,cs,e,ro,h2,h3⟩
 ·exact .inl k
 ·exact .inr ⟨h1,cs,e,ro,by rw[o.2 b hb]; omega,h3⟩
theorem zaF.cut {h:AH} {b off n sz lo off2:Nat} {cs:List Value} (s:zaF h (some ⟨b,off,none⟩) n sz cs) (hlo:lo<=n) (hoff:lo < n->off2=off+lo * sz):zaF h (some ⟨b,off2,none⟩) (n - lo) sz (cs.drop (lo * sz)):=by
 refine⟨by rw[Je,s.1,Nat.sub_mul],?_⟩
 by_cases hq:lo < n
 ·rcases s.2 with h0 | ⟨b',off',al,e,ro,hp,hb,hg,hl,hc⟩
  ·omega
  ·have hle:lo * sz<=n * sz:=Qt _ hlo
   grind[List.drop_take,QB]
 omega
theorem zrp {t:Nat} (ht:t<=8):256 ^ t<=18446744073709551616:=by
 have:256 ^ t<=256 ^ 8:=Nat.pow_le_pow_right (by omega) ht
 omega
theorem Old.near {h0 g g' : AH} {b:Nat} (o:Old h0 g) (n:zaY b g g') (hb:h0.next<=b):Old h0 g':=⟨by rw[n.1]; exact o.1,λc hc=>by rw[n.2 c (by omega),o.2 c hc]⟩
def zw4 (g:AH) (F:List Nat) (b:Nat) (cs:List Value) (ty:TypeId):Prop:=g.get b=some (.cells cs ty false)/\b < g.next/\b∉F
theorem zw4.old {g g' : AH} {F:List Nat} {b:Nat} {cs:List Value} {ty:TypeId} (w:zw4 g F b cs ty) (o:Old g g'):zw4 g' F b cs ty:=⟨(o.2 _ w.2.1).trans w.1,Qh w.2.1 o.1,w.2.2⟩
theorem zbN {g g1:AH} {z vs:List Value} {ty:TypeId} (e:g1=g.alloc (.cells z ty false)) (hl:vs.length=z.length):∃g2,stN g1 g.next 0 vs=some g2/\g2.next=g.next+1/\Old g g2/\∀F:List Nat,(∀c∈F,c < g.next)->zw4 g2 F g.next vs ty:=by
 have n:=zam g.next g1 (.cells vs ty false)
 have o1:=zab e
 refine⟨_,zaX (zae e) hl,by simp_all,⟨by simp_all,λc hc=>by rw[n.2 c (by omega),o1.2 c hc]⟩,λF hF=>⟨zaf _ _ _,by simp_all,by grind⟩⟩
theorem zw4.ld {g:AH} {F:List Nat} {b n:Nat} {cs:List Value} {ty:TypeId} (w:zw4 g F b cs ty) (hl:cs.length=n):ldN g b 0 n=some cs:=zaz w.1 hl
theorem zby.near {lim lim' : Nat} {h h' : AH} {elem:TypeId} {sz b:Nat} {p:Option Addr} {n c:Nat} {cs:List Value} (g:zby lim h elem sz p n c cs) (k:zaY b h h') (hb:b < lim) (hl:lim'<=lim):zby lim' h' elem sz p n c cs:=by
 refine⟨g.1,?_⟩
 rcases g.2 with z | ⟨b',hp,h1,h2,h3,h4⟩
 ·grind
 ·exact .inr ⟨b',hp,by omega,by rw[k.1]; omega,by rw[k.2 b' (by omega)]; omega,h4⟩
theorem zby.block {lim:Nat} {h:AH} {elem:TypeId} {sz:Nat} {p:Option Addr} {n c:Nat} {cs:List Value} (g:zby lim h elem sz p n c cs) {a:Addr} (e:p=some a):lim<=a.block/\a.block < h.next:=by
 rcases g.2 with ⟨z, -⟩ | ⟨b',hp,h1,h2, -⟩
 all_goals grind
theorem zby.form {lim:Nat} {h:AH} {elem:TypeId} {sz:Nat} {p:Option Addr} {n c:Nat} {cs:List Value} (g:zby lim h elem sz p n c cs):p=none\/∃b off,p=some ⟨b,off,none⟩:=by
 rcases g.2 with ⟨z, -⟩ | ⟨b',hp, -⟩
 all_goals grind
theorem ztY {α:Type} {A:List α} {z:α} {n j:Nat} (hn:A.length=n) (hj:j < n):(A.take j ++ List.replicate (n - j) z).set j (A[j]'(by omega))=A.take (j+1) ++ List.replicate (n - (j+1)) z:=by
 have hl:(A.take j).length=j:=by grind
 rw[List.set_append_right _ _ (by omega),hl,Nat.sub_self,show n - j=(n - (j+1))+1 by omega,List.replicate_succ,List.set_cons_zero,Qv (by omega),QP]
 rfl
section
def zns (K:Xs) (fa:FuncId) (x:XF):Xs:=λf=>cond (Nat.beq f fa) (some x) (K f)
theorem zrq {K:Xs} {fa:FuncId} {x:XF}:zns K fa x fa=some x:=by
 unfold zns
 rw[QH]
 rfl
theorem znt {K:Xs} {f fa:FuncId} {x:XF} (hn:f≠fa):zns K fa x f=K f:=by
 unfold zns
 rw[zi4 hn]
 rfl
variable {P:Program} {K:Xs}
def ztZ:List Value->AH->Option (Value×AH)
 | [],h=>some (.bool true,h)
 | _,_=>none
theorem zpR (G:zdL P) (X:zbR P K) {n:Nat} {f:FuncId} (hs:zly (zcr P K (ex P K n) f [] ⟨.nil,0⟩)=true) (cs:List Frame) {φ:Fi} {h:AH} {w:World} (hr:R P φ h w):
 ∃w' fr,Tn P φ h w φ h w'/\Steps P (lone (Frame.enter P f #[] .normal) cs w) (lone fr cs w')/\fr.fn=f/\fr.leaving P w' (.returned (.bool true)):=by
 obtain⟨h1,hc⟩:=zlz hs
 obtain⟨φ1,v1,w1,fr,t,hv,st,hfn,hl⟩:=zcm G X (zef G X n) f [] ⟨.nil,0⟩ (.bool true) h1 hc h1.next (λ_=>none) [] w cs (Qc _) (λ_ _ _=>rfl) trivial (R.empty 0)
 cases hv
 have hkeep:∀c,c < w.heap.size->w1.heap[c]?= w.heap[c]?:=λc hc'=>t.keep c hc' (by
  rintro⟨b,o,rc,k1,_⟩
  simp[AH.get,Tr.get_nil] at k1)
 refine⟨w1,fr,⟨Le.refl _,λ_ e=>.inl e,Qc _,⟨λb o rc k1 k2=>?_,hr.inj,hr.lt⟩,t.size,t.os,t.tape,t.output,λc hc' _=>hkeep c hc',λb o rc k1 k2 _=>⟨b,o,rc,k1,k2,rfl,id⟩⟩,st,hfn,hl⟩
 obtain⟨o',h3,h4⟩:=hr.obj b o rc k1 k2
 exact⟨o',by rw[hkeep _ (Array.getElem?_eq_some_iff.1 h3).1]; exact h3,h4⟩
theorem zhn (X:zbR P K) {fa:FuncId} {g:List Value->AH->Option (Value×AH)} (hb:∃fn c,P.funcs[fa]?= some fn/\fn.body=some c)
 (hs:∀args h v h',g args h=some (v,h')->h.next<=h'.next->∀(N:Nat) φ args' w cs,h'.next<=N->zeB φ h.next N->AR φ args args'->R P φ h w->
   ∃φ' v' w' fr,Tn P φ h w φ' h' w'/\VR φ' v v'/\Steps P (lone (Frame.enter P fa args'.toArray .normal) cs w) (lone fr cs w')/\fr.fn=fa/\fr.leaving P w' (.returned v')):zbR P (zns K fa (.sum g)) where
 ext:=λf x hk=>by
  by_cases hf:f=fa
  ·subst hf
   rw[zrq] at hk
   simp at hk
  ·rw[znt hf] at hk
   exact X.ext f x hk
 body:=λf x hk=>by
  by_cases hf:f=fa
  ·subst hf
   exact hb
  ·rw[znt hf] at hk
   exact X.body f x hk
 sum:=λf x hk=>by
  by_cases hf:f=fa
  ·subst hf
   rw[zrq] at hk
   simp only[Qa,XF.sum.injEq] at hk
   subst hk
   exact hs
  ·rw[znt hf] at hk
   exact X.sum f x hk
theorem znu (G:zdL P) (X:zbR P K) {n:Nat} {fa:FuncId} (hs:zly (zcr P K (ex P K n) fa [] ⟨.nil,0⟩)=true):zbR P (zns K fa (.sum ztZ)):=by
 refine zhn X ?_ ?_
 ·obtain⟨h1,hc⟩:=zlz hs
  exact zhQ X hc
 ·intro args h v h' hg hn N φ args' w cs hN hF ha hr
  unfold ztZ at hg
  split at hg
  ·simp only[Qa,Qg] at hg
   obtain⟨rfl,rfl⟩:=hg
   cases args' with
   | nil=>
     obtain⟨w',fr,t,st,hfn,hl⟩:=zpR G X hs cs hr
     exact⟨φ,.bool true,w',fr,t,.bool _,st,hfn,hl⟩
   | cons _ _=>exact ha.elim
  ·simp at hg
def zpS (P:Program) (K:Xs) (fa:FuncId) (g:List Value->AH->Option (Value×AH)):Prop:=
 ∀args h v h',(∀b o,h.get b=some o->b < h.next)->g args h=some (v,h')->∃n h1,zeT P (ex P K n) fa args h=some (v,h1)/\(∀b o,h'.get b=some o->h1.get b=some o)/\h1.next<=h'.next
theorem zej (G:zdL P) (X:zbR P K) {fa:FuncId} {g:List Value->AH->Option (Value×AH)} (hb:∃fn c,P.funcs[fa]?= some fn/\fn.body=some c) (T:zpS P K fa g):zbR P (zns K fa (.sum g)):=by
 refine zhn X hb ?_
 intro args h v h' hg hn N φ args' w cs hN hF ha hr
 obtain⟨n,h1,hb,hk,hle⟩:=T args h v h' hr.lt hg
 obtain⟨φ',v',w',fr,t,hv,st,hfn,hl⟩:=zjt G (zef G X n) fa args h v h1 hb N φ args' w cs (by omega) hF ha hr
 exact⟨φ',v',w',fr,⟨t.le,λb q=>(t.new b q).imp id (λq=>⟨q.1,by omega⟩),hn,⟨λb o rc k1 k2=>t.rel.obj b o rc (hk b o k1) k2,λb1 b2 o1 o2 r1 r2 k1 k2=>t.rel.inj b1 b2 o1 o2 r1 r2 (hk _ _ k1) (hk _ _ k2),λb o k1=>Qh (t.rel.lt b o (hk _ _ k1)) hle⟩,
  t.size,t.os,t.tape,t.output,t.keep,λb o rc k1=>t.old b o rc (hk _ _ k1)⟩,hv,st,hfn,hl⟩
theorem zxp {P:Program} {K:Xs} {h:AH} {f:FuncId} {args:List Value} {Q:Value->AH->Prop} {g:List Value->AH->Option (Value×AH)} (hk:K f=some (.sum g)) {v:Value} {h' : AH} (hg:g args h=some (v,h')) (hn:h.next<=h'.next) (hq:Q v h'):
 Wf P K f args h Q:=by
 refine⟨0,v,h',?_,hq⟩
 unfold zew
 rw[hk]
 simp only
 unfold zcr zpm
 rw[hk]
 simp only[hg]
 have:Nat.ble h.next h'.next=true:=Nat.ble_eq_true_of_le hn
 simp only[this]
end
noncomputable section
def tlR (l:List Value):List Value:=List.rec (motive:=λ_=>List Value) [] (λ_ t _=>t) l
def zib (n:Nat) (l:List Value):List Value:=Nat.rec (motive:=λ_=>List Value->List Value) (λl=>l) (λ_ g l=>g (tlR l)) (Nat.mod n 8) (Nat.rec (motive:=λ_=>List Value->List Value) (λl=>l) (λ_ g l=>g (tlR (tlR (tlR (tlR (tlR (tlR (tlR (tlR l))))))))) (Nat.div n 8) l)
def zv3 (l:List Value):Option Value:=List.rec (motive:=λ_=>Option Value) none (λv _ _=>some v) l
def zic (n:Nat):List Value->Option (List Value):=Nat.rec (motive:=λ_=>List Value->Option (List Value)) (λ_=>some []) (λ_ g l=>List.rec (motive:=λ_=>Option (List Value)) none (λv t _=>Option.rec (motive:=λ_=>Option (List Value)) none (λr=>some (v :: r)) (g t)) l) n
def zzh (vs:List Value):List Value->Option (List Value):=List.rec (motive:=λ_=>List Value->Option (List Value)) (λl=>some l) (λv _ g l=>List.rec (motive:=λ_=>Option (List Value)) none (λ_ t _=>Option.rec (motive:=λ_=>Option (List Value)) none (λr=>some (v :: r)) (g t)) l) vs
def zlX (vs:List Value) (n:Nat):List Value->Option (List Value):=Nat.rec (motive:=λ_=>List Value->Option (List Value)) (zzh vs) (λ_ g l=>List.rec (motive:=λ_=>Option (List Value)) none (λv t _=>Option.rec (motive:=λ_=>Option (List Value)) none (λr=>some (v :: r)) (g t)) l) n
def zrr {α:Type} (n:Nat):List α->Option α:=Nat.rec (motive:=λ_=>List α->Option α) (λl=>List.rec (motive:=λ_=>Option α) none (λv _ _=>some v) l) (λ_ g l=>List.rec (motive:=λ_=>Option α) none (λ_ t _=>g t) l) n
def zeY (ops:List Oper) (o:Oper) (e:Env):Option Bool:=
 match o.guard with
 | none=>some true
 | some (j,w)=>match (zrr j ops).bind (·.dst) with | some d=>(match e.get d with | some (.bool b)=>some (b == w) | some v=>cond (isSkip v) (some false) none | none=>none) | none=>none
section
variable (P:Program) (K:Xs)
def zv4 (h:AH) (t:TypeId) (v:Value):Option Value:=
 match v with
 | .pointer (some ⟨b,off,none⟩)=>
   match h.get b with
   | some (.cells cs _ _)=>
     match aggT P t with
     | some true=>match Nat.beq (P.cellsOf t) 0,zic (P.cellsOf t) (zib off cs) with | false,some l=>some (.agg l.toArray) | _,_=>zbJ P h t v
     | some false=>zv3 (zib off cs)
     | none=>none
   | _=>none
 | _=>none
def zrs (h:AH) (b off:Nat) (vs:List Value):Option AH:=match h.get b with | some (.cells cs e false)=>(match zlX vs off cs with | some l=>some (h.set b (.cells l e false)) | none=>none) | _=>none
def zrt (h:AH) (t:TypeId) (a v:Value):Option AH:=
 match a,v with
 | _,.tuple _=>none
 | .pointer (some ⟨b,off,none⟩),v=>if v.cells.size=P.cellsOf t/\(P.info? t).isSome=true then zrs h b off v.cells.toList else none
 | _,_=>none
def zv5 (t:TypeId) (cs:Array Value) (off:Nat):Option Value:=match aggT P t with | some true=>(match zic (P.cellsOf t) (zib off cs.toList) with | some l=>some (.agg l.toArray) | none=>aPart P t cs off) | some false=>zv3 (zib off cs.toList) | none=>none
def zru (t:TypeId) (x:Value) (f:Nat):Option Value:=
 match P.underlying t,x with
 | some (.struct fs),.agg cs=>match zrr f fs.toList with | some fd=>zv5 P fd.type cs fd.offset | none=>none
 | _,_=>none
def zt0 (place:Nat->Option (Nat×Nat)) (ps:List (Nat×Value)):List Value->Option (List Value):=List.rec (motive:=λ_=>List Value->Option (List Value)) (λl=>some l)
 (λp _ g l=>match place p.1 with | some (off,size)=>(match Nat.beq p.2.cells.size size with | true=>(match zlX p.2.cells.toList off l with | some l=>g l | none=>none) | false=>none) | none=>none) ps
def zrv (t:TypeId) (parts:Array (Nat×Value)):Option Value:=
 if parts.toList.any (λp=>zdJ p.2) then none else
 match zan P t,P.underlying t with
 | some z,some (.struct fields)=>
   if fields.toList.all (λf=>(P.info? f.type).isSome) then (match zt0 (λi=>(zrr i fields.toList).map λf=>(f.offset,P.cellsOf f.type)) parts.toList z with | some l=>some (.agg l.toArray) | none=>zbA P t parts) else none
 | _,_=>zbA P t parts
def zrw (h:AH) (t:TypeId) (len:Nat) (parts:Array (Nat×Value)):Option (Value×AH):=
 if parts.toList.any (λp=>zdJ p.2) then none else
 match P.underlying t with
 | some (.slice elem)=>
   match P.info? elem,zan P elem with
   | some i,some z=>
     if len * i.size<=16777216/\z.length=i.size/\len < zai then
      match zt0 (λj=>some (j * i.size,i.size)) parts.toList ((List.replicate len z).flatten) with
      | some cs=>some (.slice (some ⟨h.next,0,none⟩) len len,h.alloc (.cells cs elem false))
      | none=>zas P h t len parts
     else none
   | _,_=>none
 | _=>none
def zxq (o:Oper) (e:Env) (h:AH) (z:Option (Value×AH)):Option (Value×AH):=
 match o.op with
 | .load t a=>(zv4 P h t (ev e a)).map (·,h)
 | .store t a v=>(zrt P h t (ev e a) (ev e v)).map (undef,·)
 | .field t x f=>(zru P t (ev e x) f).map (·,h)
 | .build t parts=>(zrv P t (parts.map λ(i,x)=>(i,ev e x))).map (·,h)
 | .buildSlice t n parts=>zrw P h t n (parts.map λ(i,x)=>(i,ev e x))
 | _=>z
def opK (r:Ex) (o:Oper) (e:Env) (h:AH):Option (Value×AH):=zxq P o e h (runOp P K r o e h)
def zxr (r:Ex) (ks:List Tmp) (ops:Array Oper):List Oper->Env->AH->Option (Env×AH):=λl=>List.rec (motive:=λ_=>Env->AH->Option (Env×AH)) (λe h=>some (e,h))
 (λo _ g e h=>match zeY ops.toList o e with
   | some true=>
     match (match ks with | []=>opK P K r o e h | _=>runOp P K r o e (preKill ks o.dst e h)) with
     | some (v,h')=>g (putO e o.dst v) h'
     | none=>none
   | some false=>g (putO e o.dst zdt) h
   | none=>none) l
def zyT (r:Ex) (ops:Array Oper) (l:List Nat):Env->AH->Option (List (Env×AH)):=List.rec (motive:=λ_=>Env->AH->Option (List (Env×AH))) (λe h=>some [(e,h)])
 (λj _ g e h=>match zrr j ops.toList with
   | some o=>
     match zeY ops.toList o e with
     | some true=>(match opK P K r o e h with | some (v,h')=>(match g (putO e o.dst v) h' with | some l=>some ((e,h) :: l) | none=>none) | none=>none)
     | some false=>(match g (putO e o.dst zdt) h with | some l=>some ((e,h) :: l) | none=>none)
     | none=>none
   | none=>none) l
def zks (ops:Array Oper) (ord:List Nat) (l:List (Env×AH)) (p q:Nat):Bool:=
 match (zrr p ord).bind (zrr · ops.toList),zrr p l,zrr (p+1) l,zrr q l with
 | some o,some (e,_),some (e1,_),some (_,h)=>
   match zeY ops.toList o e with
   | some false=>true
   | some true=>match o.dst,zxq P o e h (aOp P o e h) with | some d,some (v,_)=>eqV v (ev e1 (.tmp d)) | _,_=>false
   | none=>false
 | _,_,_,_=>false
def zt1 (r:Ex) (ops:Array Oper) (e:Env) (h:AH):Option (Env×AH):=
 match zvx P ops with
 | some (ord,ps)=>
   match zyT P K r ops ord e h with
   | some l=>
     match ps.all (λp=>zks P ops ord l p.1 p.2 && zks P ops ord l p.1 (p.2+1)) with
     | true=>l.getLast?
     | false=>none
   | none=>none
 | none=>none
def exQ (n:Nat):Ex:=Nat.rec (motive:=λ_=>Ex) (λ_ _ _ _ _=>none) (λ_ r rd ks c e h=>match c with
 | .region _ ops false=>(match zxr P K r ks ops ops.toList e h with | some (e',h')=>some (.normal,e',h') | none=>none)
 | .region _ ops true=>(match zt1 P K r ops e h with | some (e',h')=>some (.normal,e',h') | none=>none)
 | c=>zaJ P K r rd ks c e h) n
end
end
end Go.Am
