/-
  BOOKS: the document: roles are changed.
-/
import Derived.Test.YtkapnilnhoiooaaGreatCRuF
set_option linter.unusedVariables false
set_option linter.unusedSimpArgs false
set_option maxRecDepth 100000
namespace Go.Am
open Go.Proofs
theorem zry {nx:Int} {rs:List zaj} (R:zam nx rs) {f:ByteArray} (nf:zbf f) {i:Nat} {v y:zaj} (hl:lookOf rs (spl f)=some i) (hv:rs[i]?= some v) (hy:y∈rs):(∃k,lookOf rs (spl (f ++ atB ++ y.name))=some k)↔zjM rs v.id y.id:=by
 have ny:=R.names y hy
 have hs:spl (f ++ atB ++ y.name)=some (f,y.name):=zaH (.inr ⟨nf,ny,rfl⟩)
 rw[zn2 nf] at hl
 have hp:plcC rs (0,f)=some i:=by
  unfold lookOf lookN at hl
  simp only at hl
  cases hq:plcC rs (0,f) with
  | none=>rw[hq] at hl; cases hl
  | some j=>
    rw[hq] at hl
    simp only at hl
    rw[if_pos trivial] at hl
    exact hl
 have hlk:lookOf rs (some (f,y.name))=plcC rs (v.id,y.name):=by
  unfold lookOf lookN
  simp only
  rw[hp]
  simp only
  rw[if_neg ny.ne,hv]
 rw[hs,hlk]
 have v1:=(R.ent (List.mem_of_getElem? hv)).1.1
 obtain⟨jy,hjy,hjy2⟩:=R.fam.place hy
 constructor
 ·rintro⟨k,hk⟩
  obtain⟨r,hr,hc⟩:=zee hk
  have hrm:=List.mem_of_getElem? hr
  have q:=R.calk hrm hc
  have q2:=q.2.2 (by omega)
  exact⟨r,hrm,q2.1,q2.2,jy,y,hjy,hjy2,q.1⟩
 ·rintro⟨s,hs,h1,h2,j,x,h3,h4,h5⟩
  rw[hjy] at h3
  cases h3
  rw[hjy2] at h4
  cases h4
  obtain⟨k,hk⟩:=List.mem_iff_getElem?.1 hs
  exact⟨k,R.look1 hk h1 h2 h5⟩
theorem ztp {nx:Int} {rs:List zaj} (R:zam nx rs) {vid:Int} {mv:List Int} {y:zaj} (hy:y∈rs) (x:Int) (hx:y.id=x):zn6 { y with own:=vid } (rs.map (zce vid mv))=rs.map (zce vid (mv ++ [x])):=by
 unfold zn6
 rw[List.map_map]
 refine List.map_congr_left fun r hr=>?_
 simp only[Function.comp]
 have hid:=(zhZ vid mv r).1
 rw[hid]
 by_cases e:r.id=y.id
 ·rw[if_pos e,R.fam.uniq hr hy e,zdV (List.mem_append_right _ (List.mem_singleton.2 hx))]
 ·rw[if_neg e]
  by_cases hm:r.id∈mv
  ·rw[zdV hm,zdV (List.mem_append_left _ hm)]
  ·rw[zdW hm,zdW fun q=>(List.mem_append.1 q).elim hm fun q=>e ((List.mem_singleton.1 q).trans hx.symm)]
section
variable {K:Xs} {h:AH} {p:Option Addr} {n c:Nat} {rs:List zaj} {nx:Int}
def zn7 (x:Nat) (p:Option Addr) (n:Nat) (ys:List zaj) (g:AH):Prop:=∀g',g.next≤g'.next→(∀y,y < g.next→y≠x→g'.get y=g.get y)→zbL g' p n ys
theorem zn7.old {x n:Nat} {p:Option Addr} {ys:List zaj} {g g1:AH} (k:zn7 x p n ys g) (o:Old g g1):zn7 x p n ys g1:=fun g' hn hk=>k g' (Nat.le_trans o.1 hn) fun y hy hne=>(hk y (Nat.lt_of_lt_of_le hy o.1) hne).trans (o.2 y hy)
theorem zn7.sets {x n:Nat} {p:Option Addr} {ys:List zaj} {g:AH} (k:zn7 x p n ys g):zbL g p n ys:=k g (Nat.le_refl _) fun _ _ _=>rfl
open Classical in
theorem zrz (kk:zdm K) (T:zbL h p n rs) (form:zhk p) (R:zam nx rs) (hn40:n≤1000) (f:ByteArray) (hf:f.size≤9223372036854775806):
 Wf Tryz.prog K 35 [.agg #[.int .u64 nx,.slice p n c],.string f] h fun v h'=>zru (zba nx rs (spl f)) v h'∧Old h h':=by
 refine zeb kk.promote _ _ _ _ _ h _ fun g0 e0 g1 e1=>?_
 have d1:=HdB.of e0 e1
 have hn:=T.1
 have err:∀{e:Int},zba nx rs (spl f)=(nx,rs,e)→∀{c:Nat} {g g' : AH},zbw nx rs nx p n g'→Old h g'→zbR g0.next g g'→zru (zba nx rs (spl f)) (.tuple #[.agg #[.int .u64 nx,.slice p n c],.int .i64 e]) g'∧Old h g':=fun {e} e' {c} {g} {g'} br o _=>⟨⟨_,_,_,_,by rw[e'],by rw[e']; exact br⟩,o⟩
 refine (zrr kk f hf).mono ?_
 rintro _ g3 ⟨⟨rfl,a,ha⟩ | ⟨rfl,ha⟩,o3⟩
 ·have d3:=d1.old o3
  obtain⟨hs,rfl,na⟩:=zgN ha
  refine .inl ⟨rfl,_,_,_,d3.sl,(zds kk.r16 (c:=c) (T.old d3.o) R a hf).mono ?_⟩
  rintro _ g8 ⟨q,o8⟩
  have d8:=d3.old o8
  rcases namedD q with ⟨i,v,hl,hr,rfl⟩ | ⟨hl,e,he,rfl⟩
  ·have hvs:=zfo R ha hl hr
   have hvm:v∈rs:=List.mem_of_getElem? hr
   refine⟨_,_,_,_,_,_,_,_,_,_,_,_,_,_,rfl,fun g23 e23=>?_⟩
   obtain⟨g24,k24,n24,o24,v24⟩:=zap e23 (vs:=setC v) rfl
   have w24:=(v24 [] (fun c hc=>by cases hc)).1
   have d24:=d8.old o24
   have m8:=d8.lt
   have m0:=d8.n0
   refine⟨rfl,g24,k24,fun _=>⟨_,_,_,d24.sl,_,zae w24 rfl,(zuc kk.r16 (c:=c) (T.old d24.o) R.zero hn40 v.id).mono ?_⟩,fun z=>absurd rfl z⟩
   rintro _ g30 ⟨p1,m1,c1,rfl, -,o30⟩
   have d30:=d24.old o30
   rw[R.back v.id]
   have hA0:zba nx rs (spl a)=match plcN rs (wayR rs v.id).2 with
    | none=>(nx,rs,(174:Int))
    | some jo=>match rs[jo]? with
      | none=>(nx,rs,0)
      | some og=>if ∃m∈(zcz rs og.own 32 og.id []).1,zjM rs v.id m then (nx,rs,171) else (nx,rs.map (zce v.id (zcz rs og.own 32 og.id []).1),0):=by
    unfold zba; rw[ha]; simp only; rw[hl]; simp only; rw[hr]; rfl
   refine⟨_,_,_,_,rfl,fun q0=>zhA d30 T form fun g'=>err (by rw[hA0,q0,R.zero]),fun q0=>⟨_,_,_,d30.sl,(ze1 kk.r16 (c:=c) (T.old d30.o) (wayR rs v.id).2).mono ?_⟩⟩
   rintro _ g48 ⟨⟨jo,og,hj,hjx,rfl⟩ | ⟨hj,rfl⟩,o48⟩
   ·have d48:=d30.old o48
    obtain⟨w,pre,post,ee,Q⟩:=R.fam.promQ hvm hvs hj hjx
    have hpA:zba nx rs (spl a)=if ∃m∈(zcz rs og.own 32 og.id []).1,zjM rs v.id m then (nx,rs,171) else (nx,rs.map (zce v.id (zcz rs og.own 32 og.id []).1),0):=by
     rw[hA0,hj]; simp only; rw[hjx]
    rw[Q.mv] at hpA
    have hch:=Q.cw.cut
    have hat:(wayR rs v.id).2=og.id:=by
     obtain⟨hjl,hje⟩:=zbv hj
     rw[List.getElem?_eq_getElem hjl] at hjx
     rw[←Option.some.inj hjx]
     exact hje.symm
    rw[hat]
    refine⟨_,_,_,_,_,_,_,_,_,_,_,_,_,.inl ⟨rfl,fun g62 e62=>?_⟩⟩
    obtain⟨g63,k63,n63,o63,v63⟩:=zap e62 (vs:=setC og) rfl
    have wo63:=(v63 [] (fun c hc=>by cases hc)).1
    have d63:=d48.old o63
    have m30:=o30.1
    have m48:=o48.1
    have wv63:=(o63.2 g8.next (by omega)).trans ((o48.2 g8.next (by omega)).trans ((o30.2 g8.next (by omega)).trans w24))
    have hlen:(og :: post).length≤n:=by
     have:=zlk (Chn.nodup R.fam hch) (r:=rs.map (·.id)) fun x hx=>by
      obtain⟨y,hy,e⟩:=List.mem_map.1 hx
      exact List.mem_map.2 ⟨y,(hch.mem y hy).1,e⟩
     rw[List.length_map,List.length_map] at this
     omega
    have hid0:rs.map (zce v.id [])=rs:=by
     conv=>rhs; rw[←List.map_id rs]
     exact List.map_congr_left fun r _=>zdW (by simp)
    have okm:∀{g:AH} {mv:List Int},Old h g→∀x∈rs.map (zce v.id mv),zbC g x:=fun {g} {mv} o x hx=>by
     obtain⟨y,hy,rfl⟩:=List.mem_map.1 hx
     have k:=(T.ok y hy).old o
     unfold zce
     split
     ·exact⟨k.id,(T.ok v hvm).id,k.prev,k.stamp,k.root,k.dead,k.form,k.room,k.len,k.shows⟩
     ·exact k
    have keep0:zn7 g0.next p n (rs.map (zce v.id [])) g63:=fun g' hn' hk=>by
     rw[hid0]
     exact T.old ⟨Nat.le_trans d63.o.1 hn',fun y hy=>(hk y (by have:=d63.lt; omega) (by omega)).trans (d63.o.2 y hy)⟩
    refine⟨rfl,g63,k63,_,_,_,d63.sl,fun i71 p72 n73 c74 i75 k g=>∃(t:Nat) (A B:List zaj),i75=t∧og :: post=A ++ B∧A.length=t∧n - t=k∧t≤n∧n73=n∧Old g63 g∧zhk p72∧zn7 g0.next p72 n (rs.map (zce v.id (A.map (·.id)))) g∧Chn rs w.id i71 B ee∧∀y∈A,¬zjM rs v.id y.id,
     ⟨_,0,[],og :: post,rfl,rfl,rfl,rfl,Nat.zero_le _,rfl,Old.refl _,form,keep0,hch,fun y hy=>(by cases hy)⟩,?_⟩
    rintro k68 g69 i71 p72 n73 c74 i75 ⟨t,A,B,rfl,hAB,rfl,rfl,ht,rfl,o69,fm,KS,cB,hno⟩
    have d69:=d63.old o69
    have m63:=o69.1
    have wv69:=(o69.2 g8.next (by omega)).trans wv63
    have wo69:=(o69.2 g48.next (by omega)).trans wo63
    have fin:B=[]→∀{g:AH},Old g69 g→∀{c74:Nat},∃i155:Int,ld1 g h.next 0=some (.int .u64 i155)∧(List.length [Value.int .u64 i155,.slice p72 n73 c74]=2)∧∃h156:AH,stN g g0.next 0 [.int .u64 i155,.slice p72 n73 c74]=some h156∧∃i157:Int,∃(p158:Option Addr) (n159 c160:Nat),ldN h156 g0.next 0 2=some [.int .u64 i157,.slice p158 n159 c160]∧(zru (zba nx rs (spl a)) (.tuple #[.agg #[.int .u64 i157,.slice p158 n159 c160],.int .i64 0]) h156∧Old h h156):=fun hB {g} o {c74}=>by
     subst hB
     rw[List.append_nil] at hAB
     rw[hAB] at hpA
     have dg:=d69.old o
     have m1:=dg.lt
     rw[if_neg (by
      rintro⟨x,hx,hq⟩
      obtain⟨y,hy,rfl⟩:=List.mem_map.1 hx
      exact hno y hy hq)] at hpA
     refine⟨_,dg.nx,rfl,zuh (C:=fun i157 p158 n159 c160 h156=>zru (zba nx rs (spl a)) (.tuple #[.agg #[.int .u64 i157,.slice p158 n159 c160],.int .i64 0]) h156∧Old h h156) (by omega) dg.c1 rfl fun g' nr=>⟨⟨_,_,_,_,by rw[hpA],by rw[hpA]; exact⟨rfl,fm,_,(KS.old o) g' (by rw[nr.1]; exact Nat.le_refl _) fun y hy hne=>nr.2 y hne,rfl⟩⟩,zao dg.o nr (by omega)⟩⟩
    refine⟨_,_,_,d69.sl,fun z=>⟨_,_,_,d69.sl,(ze1 kk.r16 (c:=c) (T.old d69.o) i71).mono ?_⟩,fun z=>?_⟩
    ·rintro _ g83 ⟨⟨js,s,hjs,hsx,rfl⟩ | ⟨hjs,rfl⟩,o83⟩
     ·refine⟨_,_,_,_,_,_,_,_,_,_,_,_,_,.inl ⟨rfl,fun g97 e97=>?_⟩⟩
      obtain⟨g98,k98,n98,o98,v98⟩:=zap e97 (vs:=setC s) rfl
      have ws98:=(v98 [] (fun c hc=>by cases hc)).1
      have o6998:=o83.trans o98
      have d98:=d69.old o6998
      have m83:=o83.1
      have wo98:=(o6998.2 g48.next (by omega)).trans wo69
      have wv98:=(o6998.2 g8.next (by omega)).trans wv69
      have hsm:s∈rs:=List.mem_of_getElem? hsx
      have hsi:s.id=i71:=by
       obtain⟨h1,h2⟩:=zbv hjs
       rw[List.getElem?_eq_getElem h1] at hsx
       rw[←Option.some.inj hsx]
       exact h2
      refine⟨rfl,g98,k98,_,zae ws98 rfl,_,zae wo98 rfl,fun q1=>?_,fun q1=>fin ?_ o6998⟩
      ·cases B with
       | nil=>
         exfalso
         have hend:i71=ee:=cB
         rcases Q.ew with h0 | ⟨x,hx,hxe,hxs,hxo⟩
         ·have:=(R.ent hsm).1.1
          omega
         ·have:=R.fam.uniq hx hsm (hxe.trans (hend.symm.trans hsi.symm))
          subst this
          exact hxo (q1.trans Q.wo)
       | cons y B'=>
         obtain⟨hy1,hy2,hy3,hy4,hy5⟩:=cB
         obtain rfl:=R.fam.uniq hsm hy2 (hsi.trans hy1.symm)
         have f24:=na.2.1
         have s24:=(R.names s hsm).2.1
         refine⟨_,_,_,_,d98.ldN,by show ((a.size+1:Nat):Int)≤_; omega,fun s105 e105=>⟨_,zae ws98 rfl,?_,fun s107 e107=>?_⟩⟩
         ·subst e105
          rw[ByteArray.size_append]
          show ((a.size+1+s.name.size:Nat):Int)≤_
          omega
         ·subst e105
          subst e107
          have hci:=zry R na hl hr hsm
          refine (zll kk (c:=c) (T.old d98.o) R (a ++ atB ++ s.name) (by rw[ByteArray.size_append,ByteArray.size_append]; show a.size+1+s.name.size≤_; omega) nx).mono ?_
          rintro _ g109 ⟨⟨rfl,hcl⟩ | ⟨rfl,hcl⟩,o109⟩
          ·refine .inl ⟨rfl,zhA (d98.old o109) T form fun g'=>err ?_⟩
           rw[hpA,if_pos]
           exact⟨s.id,by rw[hAB]; simp,hci.1 hcl⟩
          ·have ws109:=(o109.2 g83.next (by omega)).trans ws98
           have wv109:=(o109.2 g8.next (by omega)).trans wv98
           have m109:=o109.1
           obtain⟨g120,k120,nr120,w120⟩:=zmI (v:=.int .u64 v.id) ws109 (i:=3) (by simp[setC])
           have o120:Old g69 g120:=zao (o6998.trans o109) nr120 (by omega)
           have w120:g120.get g83.next=some (.cells (setC { s with own:=v.id }) 81 false):=w120
           have d120:=d69.old o120
           have oks:=(T.ok s hsm).old d120.o
           refine .inr ⟨rfl,_,zae wv109 rfl,g120,k120,_,_,_,_,_,_,_,_,_,_,_,_,_,zah w120 rfl,(ztm kk (KS.old o120).sets (by omega) (s:={ s with own:=v.id }) ⟨oks.id,(T.ok v hvm).id,oks.prev,oks.stamp,oks.root,oks.dead,oks.form,oks.room,oks.len,oks.shows⟩).mono ?_⟩
           rintro _ g135 ⟨p136,c138,rfl,G,o135⟩
           rw[ztp R hsm s.id rfl] at G
           have d135:=d120.old o135
           have l120:=d120.lt
           have w135:=(o135.2 g83.next (by rw[nr120.1]; omega)).trans w120
           refine⟨_,_,_,rfl,_,zae w135 rfl,fun i140 e140=>?_⟩
           have hlt:A.length < n73:=by
            rw[hAB,List.length_append,List.length_cons] at hlen
            omega
           have e140:=zcj e140 (by omega) (by omega)
           refine⟨n73 - (A.length+1),by omega,A.length+1,A ++ [s],B',by rw[e140]; rfl,by rw[hAB]; simp,by simp,rfl,by omega,rfl,o69.trans (o120.trans o135),G.form,fun g' hn' hk=>?_,hy5,fun y hy=>?_⟩
           ·have o' : Old h g':=⟨Nat.le_trans d135.o.1 hn',fun y hy=>(hk y (by have:=d135.lt; omega) (by omega)).trans (d135.o.2 y hy)⟩
            have G':=G.keep hn' fun a ha=>hk _ (G.block ha).2 (by have:=(G.block ha).1; omega)
            rw[List.map_append]
            exact zdd G' (by omega) (okm o')
           ·rcases za1.1 hy with hy | rfl
            ·exact hno y hy
            ·exact fun q=>hcl (hci.2 q)
      ·cases B with
       | nil=>rfl
       | cons y B'=>
         obtain⟨hy1,hy2,hy3,hy4,hy5⟩:=cB
         obtain rfl:=R.fam.uniq hsm hy2 (hsi.trans hy1.symm)
         exact absurd (hy3.trans Q.wo.symm) q1
     ·refine⟨_,_,_,_,_,_,_,_,_,_,_,_,_,.inr ⟨rfl,fun g97 e97=>?_⟩⟩
      obtain⟨g98,k98,n98,o98,v98⟩:=zap e97 (vs:=setC zaq) rfl
      refine⟨rfl,g98,k98,fin ?_ (o83.trans o98)⟩
      cases B with
      | nil=>rfl
      | cons y B'=>
        obtain⟨hy1,hy2, -⟩:=cB
        exact absurd hy1 (zqW hjs y hy2)
    ·refine fin ?_ (Old.refl _)
     have hle:A.length+B.length≤n73:=by rw[←List.length_append,←hAB]; exact hlen
     exact List.length_eq_zero_iff.1 (by omega)
   ·exfalso
    obtain⟨lv,ev,cv,Ev, -⟩:=R.fam.chain hvm hvs
    rw[R.fam.wayR hvm hvs cv Ev] at hj q0
    rcases Ev with h0 | ⟨x,hx,hxe, -⟩
    ·exact q0 h0
    ·exact zqW hj x hx hxe
  ·refine⟨_,_,_,_,_,_,_,_,_,_,_,_,_,_,rfl,fun g23 e23=>?_⟩
   obtain⟨g24,k24,n24,o24,v24⟩:=zap e23 (vs:=setC zaq) rfl
   exact⟨rfl,g24,k24,fun z=>absurd z he,fun _=>zhA (d8.old o24) T form fun g'=>err (by unfold zba; rw[ha]; simp only; rw[hl])⟩
 ·exact .inr ⟨rfl,zhA (d1.old o3) T form fun g'=>err (by unfold zba; rw[zdX ha])⟩
end
theorem zul {nx:Int} {rs:List zaj} (F:Fam nx rs) {v:zaj} (hv:v∈rs):zeg rs v.prev (flr rs v.id):=by
 obtain⟨j,hj,hjx⟩:=F.place hv
 rw[zqX hj hjx]
 obtain⟨A,hA, -⟩:=F.elder v hv
 rcases hA with ⟨h1,h2⟩ | ⟨x,hx,h1,h2,h3⟩
 ·exact .inl ⟨h1,by unfold zmx; rw[if_pos h1]⟩
 ·have:=F.id1 hx
  obtain⟨k,hk,hkx⟩:=F.place hx
  refine .inr ⟨x,hx,h1,h2,?_⟩
  unfold zmx
  rw[if_neg (by omega),←h1,hk]
  simp only
  rw[hkx]
theorem zkg {nx:Int} {rs:List zaj} {a:ByteArray} (h:lookN rs a noB=none):∀r∈rs,zdk r≠(0,a):=by
 unfold lookN at h
 cases hp:plcC rs (0,a) with
 | none=>exact zra hp
 | some i=>rw[hp] at h; simp only at h; rw[if_pos trivial] at h; cases h
theorem zgP {nx:Int} {rs:List zaj} (R:zam nx rs) (h1:1≤nx) (h2:nx < 281474976710655) (f:ByteArray) (k:Int):zam (zax nx rs (spl f) k).1 (zax nx rs (spl f) k).2.1:=by
 unfold zax
 cases hv:volOf (spl f) with
 | none=>exact R
 | some a=>
   simp only
   split
   ·exact R
   ·split
    ·exact R
    ·cases hl:lookOf rs (spl f) with
     | some i=>exact R
     | none=>
       obtain⟨hs,rfl,na⟩:=zgN hv
       rw[hs] at hl
       exact (R.fam.addVol h1 h2 (by omega) na (zkg (nx:=nx) hl) (by omega) (.inl ⟨rfl,rfl,rfl⟩) (.inl rfl)).right
theorem zhB {nx:Int} {rs:List zaj} (R:zam nx rs) (h1:1≤nx) (h2:nx < 281474976710655) (f f2:ByteArray):zam (zaK nx rs (spl f) (spl f2)).1 (zaK nx rs (spl f) (spl f2)).2.1:=by
 unfold zaK
 cases hs:snapOf (spl f) with
 | none=>exact R
 | some q=>
   obtain⟨a0,b0⟩:=q
   simp only
   cases hv:volOf (spl f2) with
   | none=>exact R
   | some a=>
     simp only
     cases hl:lookOf rs (spl f) with
     | none=>exact R
     | some i=>
       simp only
       split
       ·exact R
       ·cases hl2:lookOf rs (spl f2) with
        | some j=>exact R
        | none=>
          simp only
          cases hr:rs[i]? with
          | none=>exact R
          | some s=>
            have hsm:=List.mem_of_getElem? hr
            have es:=R.ent hsm
            obtain⟨hs2,rfl,na⟩:=zgN hv
            rw[hs2] at hl2
            exact (R.fam.addVol h1 h2 (by omega) na (zkg (nx:=nx) hl2) es.2.2.2.1 es.2.2.2.2.2.1 (.inr ⟨s,hsm,rfl,zjb R hs hl hr⟩)).right
theorem zjc {nx:Int} {rs:List zaj} (R:zam nx rs) (h1:1≤nx) (h2:nx < 281474976710655) (f:ByteArray) (st:Int):zam (snapA nx rs (spl f) st).1 (snapA nx rs (spl f) st).2.1:=by
 unfold snapA
 cases hs:snapOf (spl f) with
 | none=>exact R
 | some q=>
   obtain⟨a,b⟩:=q
   simp only
   obtain⟨hs2,hb,na,nb, -⟩:=zgO hs
   cases hl:lookN rs a noB with
   | none=>exact R
   | some i=>
     simp only
     split
     ·exact R
     ·cases hl2:lookOf rs (spl f) with
      | some j=>exact R
      | none=>
        simp only
        cases hr:rs[i]? with
        | none=>exact R
        | some v=>
          simp only
          split
          ·exact R
          ·have hvm:=List.mem_of_getElem? hr
           have hvs:v.snap=false:=zfo R (o:=some (a,noB)) (a:=a) (by unfold volOf; simp) hl hr
           have hcal:∀r∈rs,zdk r≠(v.id,b):=by
            rw[hs2] at hl2
            have hp:plcC rs (0,a)=some i:=by
             unfold lookN at hl
             cases hq:plcC rs (0,a) with
             | none=>rw[hq] at hl; cases hl
             | some j=>
               rw[hq] at hl
               simp only at hl
               rw[if_pos trivial] at hl
               exact hl
            unfold lookOf lookN at hl2
            simp only at hl2
            rw[hp] at hl2
            simp only at hl2
            rw[if_neg hb,hr] at hl2
            exact zra hl2
           have hfl:=zul R.fam hvm
           exact (R.fam.addSnap h1 h2 (by omega) hvm hvs nb hcal (st:=st) (by omega) fun Fl hF=>by rw[zeg.det R.fam hF hfl]; omega).right
open Classical in
theorem zn8 {nx:Int} {rs:List zaj} (R:zam nx rs) (f:ByteArray):zam (zba nx rs (spl f)).1 (zba nx rs (spl f)).2.1:=by
 unfold zba
 cases hv:volOf (spl f) with
 | none=>exact R
 | some a=>
   simp only
   cases hl:lookOf rs (spl f) with
   | none=>exact R
   | some i=>
     simp only
     cases hr:rs[i]? with
     | none=>exact R
     | some v=>
       simp only
       cases hj:plcN rs (wayR rs v.id).2 with
       | none=>exact R
       | some jo=>
         simp only
         cases ho:rs[jo]? with
         | none=>exact R
         | some og=>
           simp only
           split
           ·exact R
           ·rename_i hno
            have hvm:=List.mem_of_getElem? hr
            have hvs:=zfo R hv hl hr
            obtain⟨w,pre,post,ee,Q⟩:=R.fam.promQ hvm hvs hj ho
            obtain⟨lv,Cv,Ev,av⟩:=Q.cv
            have hch:=Q.cw.cut
            rw[Q.mv] at hno ⊢
            refine (R.fam.promote hvm hvs Cv Ev av Q.ho Q.os Q.hw Q.ws Q.wo Q.cw Q.ew Q.aw fun m hm s hs h1 h2 h3=>hno ⟨m.id,List.mem_map.2 ⟨m,hm,rfl⟩,s,hs,h1,h2,?_⟩).right
            obtain⟨j,hj1,hj2⟩:=R.fam.place (hch.mem m hm).1
            exact⟨j,m,hj1,hj2,h3⟩
theorem zn9 {nx:Int} {rs:List zaj} (R:zam nx rs) (f:ByteArray):zam (zaW nx rs (spl f)).1 (zaW nx rs (spl f)).2.1:=by
 unfold zaW
 cases hv:volOf (spl f) with
 | none=>exact R
 | some a=>
   simp only
   cases hl:lookOf rs (spl f) with
   | none=>exact R
   | some i=>
     simp only
     cases hr:rs[i]? with
     | none=>exact R
     | some v=>
       simp only
       cases hj:plcN rs v.prev with
       | none=>exact R
       | some jo=>
         simp only
         cases ho:rs[jo]? with
         | none=>exact R
         | some x=>
           simp only
           have hx:=R.ent (List.mem_of_getElem? ho)
           refine (R.fam.keep (f:=zdU v x.root) (fun r _=>?_) (fun r hr=>?_) fun r hr Fl hF q hq=>?_).right
           ·unfold zdU
            split <;> exact⟨rfl,rfl,rfl,rfl,rfl,rfl⟩
           ·have e:=R.ent hr
            unfold zdU
            split
            ·exact⟨e.1,e.2.1,e.2.2.1,e.2.2.2.1,e.2.2.2.2.1,hx.2.2.2.2.2.1,Nat.zero_le _,zi0,e.2.2.2.2.2.2.2.2⟩
            ·exact e
           ·unfold zdU at hq
            split at hq
            ·cases hq
            ·obtain⟨F,hF2, -,h3⟩:=R.fam.elder r hr
             rw[zeg.det R.fam hF hF2]
             exact h3 q hq
theorem zjN {nx:Int} {rs:List zaj} (R:zam nx rs) (f:ByteArray):zam (zav nx rs (spl f)).1 (zav nx rs (spl f)).2.1:=by
 unfold zav
 cases hv:volOf (spl f) with
 | none=>exact R
 | some a=>
   simp only
   cases hl:lookOf rs (spl f) with
   | none=>exact R
   | some i=>
     simp only
     cases hr:rs[i]? with
     | none=>exact R
     | some v=>
       simp only
       split
       ·exact R
       ·rename_i hno
        refine (R.fam.dropVol (List.mem_of_getElem? hr) (zfo R hv hl hr) fun s hs h1 h2=>hno ?_).right
        exact List.length_pos_of_mem (List.mem_filter.2 ⟨hs,by simp[h1,h2]⟩)
theorem zjd {nx:Int} {rs:List zaj} (R:zam nx rs) (f:ByteArray):zam (zaw nx rs (lookOf rs (spl f)) (snapOf (spl f)).isSome).1 (zaw nx rs (lookOf rs (spl f)) (snapOf (spl f)).isSome).2.1:=by
 unfold zaw
 cases hs:snapOf (spl f) with
 | none=>exact R
 | some q=>
   obtain⟨a,b⟩:=q
   rw[Option.isSome_some,if_neg (by decide)]
   cases hl:lookOf rs (spl f) with
   | none=>exact R
   | some i=>
     simp only
     cases hr:rs[i]? with
     | none=>exact R
     | some s=>
       simp only
       split
       ·exact R
       ·rename_i hno
        have hsm:=List.mem_of_getElem? hr
        have hss:=zjb R hs hl hr
        obtain⟨j,z,hj,hz,zo,zp, -⟩:=R.nextOk hr hss
        have hzm:=List.mem_of_getElem? hz
        rw[hj]
        simp only
        rw[hz]
        simp only
        cases hm:mrg (oldD (flr rs s.id) z.dead) s.dead with
        | none=>exact R
        | some d=>
          simp only
          split
          ·exact R
          ·have es:=R.ent hsm
           have ez:=R.ent hzm
           obtain⟨dd,dm⟩:=zeu.mrg (ez.2.2.2.2.2.2.2.1.filter _) es.2.2.2.2.2.2.2.1 hm
           obtain⟨F0,hF0, -,hd0⟩:=R.fam.elder s hsm
           have hfl:=zul R.fam hsm
           refine (R.fam.dropSnap hsm hss hzm zo zp (fun r hrm hp=>?_) dd (by omega) fun Fl hF q hq=>?_).right
           ·by_cases ho:r.own=s.own
            ·obtain⟨-,⟨a0,ha0,h1,h2,h3⟩⟩:=R.fam.owner s hsm hss
             rw[h3 r hrm ho hp,h3 z hzm zo zp]
            ·exfalso
             apply hno
             obtain⟨k,hk,hkx⟩:=R.fam.place hsm
             unfold clL
             rw[hk]
             simp only
             rw[hkx]
             simp only
             rw[if_pos hss,List.length_map]
             exact List.length_pos_of_mem (List.mem_filter.2 ⟨hrm,by simp[ho,hp]⟩)
           ·rcases (dm q).1 hq with h | h
            ·rw[zeg.det R.fam hF hfl]
             exact (zu4 h).2
            ·rw[zeg.det R.fam hF hF0]
             exact hd0 q h
theorem getc {xs ys:List zaj} (h:xs.map cor=ys.map cor) (i:Nat):(xs[i]?= none∧ys[i]?= none)∨∃a b,xs[i]?= some a∧ys[i]?= some b∧cor a=cor b:=by
 cases hx:xs[i]? with
 | none=>
   refine .inl ⟨rfl,?_⟩
   rw[List.getElem?_eq_none_iff] at hx ⊢
   rw[←za5 h]
   exact hx
 | some a=>
   obtain⟨b,hb,hc⟩:=zcA h hx
   exact .inr ⟨a,b,rfl,hb,hc⟩
theorem zgQ {f g:zaj→zaj} (hf:∀a b,cor a=cor b→cor (f a)=cor (g b)):∀{xs ys:List zaj},xs.map cor=ys.map cor→(xs.map f).map cor=(ys.map g).map cor
 | [],[],_=>rfl
 | [],_ :: _,h=>by cases h
 | _ :: _,[],h=>by cases h
 | a :: xs,b :: ys,h=>by
   rw[List.map_cons,List.map_cons] at h
   injection h with h1 h2
   rw[List.map_cons,List.map_cons,List.map_cons,List.map_cons,hf a b h1,zgQ hf h2]
section
variable {xs ys:List zaj} {nx:Int}
theorem zaP (h:xs.map cor=ys.map cor) (o:Option (ByteArray×ByteArray)):lookOf xs o=lookOf ys o:=by
 unfold lookOf
 cases o with
 | none=>rfl
 | some q=>exact zmC h q.1 q.2
def E3 (a b:Int×List zaj×Int):Prop:=a.1=b.1∧a.2.1.map cor=b.2.1.map cor∧a.2.2=b.2.2
def ES (a b:Int×List zaj×zaj×Int):Prop:=a.1=b.1∧a.2.1.map cor=b.2.1.map cor∧cor a.2.2.1=cor b.2.2.1∧a.2.2.2=b.2.2.2
def EL (a b:Int×List zaj×List PtI×Int):Prop:=a.1=b.1∧a.2.1.map cor=b.2.1.map cor∧a.2.2=b.2.2
theorem zje (h:xs.map cor=ys.map cor) (o:Option (ByteArray×ByteArray)) (k:Int):E3 (zax nx xs o k) (zax nx ys o k):=by
 unfold zax
 rw[zaP h,za5 h]
 cases volOf o with
 | none=>exact⟨rfl,h,rfl⟩
 | some a=>
   simp only
   split
   ·exact⟨rfl,h,rfl⟩
   ·split
    ·exact⟨rfl,h,rfl⟩
    ·cases lookOf ys o with
     | some i=>exact⟨rfl,h,rfl⟩
     | none=>exact⟨rfl,by simp only[List.map_append,h],rfl⟩
theorem zmO (h:xs.map cor=ys.map cor) (o:Option (ByteArray×ByteArray)) (st:Int):E3 (snapA nx xs o st) (snapA nx ys o st):=by
 unfold snapA
 cases snapOf o with
 | none=>exact⟨rfl,h,rfl⟩
 | some q=>
   obtain⟨a,b⟩:=q
   simp only
   rw[zmC h,zaP h,za5 h]
   cases lookN ys a noB with
   | none=>exact⟨rfl,h,rfl⟩
   | some i=>
     simp only
     split
     ·exact⟨rfl,h,rfl⟩
     ·cases lookOf ys o with
      | some j=>exact⟨rfl,h,rfl⟩
      | none=>
        simp only
        rcases getc h i with ⟨h1,h2⟩ | ⟨v,w,h1,h2,hc⟩
        ·rw[h1,h2]
         exact⟨rfl,h,rfl⟩
        ·rw[h1,h2]
         simp only
         have q:=zaL hc
         rw[znX h,q.1]
         split
         ·exact⟨rfl,h,rfl⟩
         ·refine⟨rfl,?_,rfl⟩
          rw[List.map_append,List.map_append]
          congr 1
          ·refine zgQ (fun a b hab=>?_) h
           have e:=zaL hab
           unfold zcp
           rw[e.1,q.1]
           split
           ·exact zfR ⟨e.1,e.2.1,e.2.2.1,e.2.2.2.1,rfl,e.2.2.2.2.2.1,e.2.2.2.2.2.2.1,e.2.2.2.2.2.2.2.1,rfl,rfl⟩
           ·exact hab
          ·show [cor _]=[cor _]
           congr 1
           exact zfR ⟨rfl,rfl,rfl,q.1,q.2.2.2.2.1,rfl,q.2.2.2.2.2.2.1,q.2.2.2.2.2.2.2.1,q.2.2.2.2.2.2.2.2.1,q.2.2.2.2.2.2.2.2.2⟩
theorem zkh (h:xs.map cor=ys.map cor) (o o2:Option (ByteArray×ByteArray)):E3 (zaK nx xs o o2) (zaK nx ys o o2):=by
 unfold zaK
 cases snapOf o with
 | none=>exact⟨rfl,h,rfl⟩
 | some q=>
   simp only
   cases volOf o2 with
   | none=>exact⟨rfl,h,rfl⟩
   | some a=>
     simp only
     rw[zaP h,zaP h,za5 h]
     cases lookOf ys o with
     | none=>exact⟨rfl,h,rfl⟩
     | some i=>
       simp only
       split
       ·exact⟨rfl,h,rfl⟩
       ·cases lookOf ys o2 with
        | some j=>exact⟨rfl,h,rfl⟩
        | none=>
          simp only
          rcases getc h i with ⟨h1,h2⟩ | ⟨v,w,h1,h2,hc⟩
          ·rw[h1,h2]
           exact⟨rfl,h,rfl⟩
          ·rw[h1,h2]
           simp only
           have q:=zaL hc
           rw[q.1,q.2.2.2.2.2.2.1,q.2.2.2.2.2.2.2.1]
           exact⟨rfl,by simp only[List.map_append,h],rfl⟩
theorem zmP (h:xs.map cor=ys.map cor) {vid m:Int} (c:zjM xs vid m):zjM ys vid m:=by
 obtain⟨s,hs,h1,h2,j,x,h3,h4,h5⟩:=c
 obtain⟨k,hk⟩:=List.mem_iff_getElem?.1 hs
 obtain⟨s',hk',hcs⟩:=zcA h hk
 obtain⟨x',hx',hcx⟩:=zcA h h4
 have e:=zaL hcs
 exact⟨s',List.mem_of_getElem? hk',by rw[←e.2.2.1]; exact h1,by rw[←e.2.2.2.1]; exact h2,j,x',by rw[←zbb h]; exact h3,hx',by rw[←e.2.1,h5,(zaL hcx).2.1]⟩
open Classical in
theorem zmQ (h:xs.map cor=ys.map cor) (o:Option (ByteArray×ByteArray)):E3 (zba nx xs o) (zba nx ys o):=by
 unfold zba
 cases volOf o with
 | none=>exact⟨rfl,h,rfl⟩
 | some a=>
   simp only
   rw[zaP h]
   cases lookOf ys o with
   | none=>exact⟨rfl,h,rfl⟩
   | some i=>
     simp only
     rcases getc h i with ⟨h1,h2⟩ | ⟨v,w,h1,h2,hc⟩
     ·rw[h1,h2]
      exact⟨rfl,h,rfl⟩
     ·rw[h1,h2]
      simp only
      have q:=zaL hc
      rw[q.1,zoU h,zbb h]
      cases plcN ys (wayR ys w.id).2 with
      | none=>exact⟨rfl,h,rfl⟩
      | some jo=>
        simp only
        rcases getc h jo with ⟨g1,g2⟩ | ⟨og,oh,g1,g2,gc⟩
        ·rw[g1,g2]
         exact⟨rfl,h,rfl⟩
        ·rw[g1,g2]
         simp only
         have e:=zaL gc
         rw[e.1,e.2.2.2.1,zk9 h]
         by_cases hcl:∃m∈(zcz ys oh.own 32 oh.id []).1,zjM ys w.id m
         ·rw[if_pos hcl,if_pos (hcl.imp fun m hm=>⟨hm.1,zmP h.symm hm.2⟩)]
          exact⟨rfl,h,rfl⟩
         ·rw[if_neg hcl,if_neg fun z=>hcl (z.imp fun m hm=>⟨hm.1,zmP h hm.2⟩)]
          refine⟨rfl,zgQ (fun a b hab=>?_) h,rfl⟩
          have e2:=zaL hab
          unfold zce
          rw[e2.1]
          split
          ·exact zfR ⟨rfl,e2.2.1,e2.2.2.1,rfl,e2.2.2.2.2⟩
          ·exact hab
theorem zmR (h:xs.map cor=ys.map cor) (o:Option (ByteArray×ByteArray)):ES (zaW nx xs o) (zaW nx ys o):=by
 unfold zaW
 cases volOf o with
 | none=>exact⟨rfl,h,rfl,rfl⟩
 | some a=>
   simp only
   rw[zaP h]
   cases lookOf ys o with
   | none=>exact⟨rfl,h,rfl,rfl⟩
   | some i=>
     simp only
     rcases getc h i with ⟨h1,h2⟩ | ⟨v,w,h1,h2,hc⟩
     ·rw[h1,h2]
      exact⟨rfl,h,rfl,rfl⟩
     ·rw[h1,h2]
      simp only
      have q:=zaL hc
      rw[q.2.2.2.2.1,zbb h]
      cases plcN ys w.prev with
      | none=>exact⟨rfl,h,rfl,rfl⟩
      | some jo=>
        simp only
        rcases getc h jo with ⟨g1,g2⟩ | ⟨og,oh,g1,g2,gc⟩
        ·rw[g1,g2]
         exact⟨rfl,h,rfl,rfl⟩
        ·rw[g1,g2]
         simp only
         have e:=zaL gc
         refine⟨rfl,zgQ (fun a b hab=>?_) h,hc,rfl⟩
         have e2:=zaL hab
         unfold zdU
         rw[e2.1,q.1]
         split
         ·exact zfR ⟨e2.1,e2.2.1,e2.2.2.1,e2.2.2.2.1,e2.2.2.2.2.1,e2.2.2.2.2.2.1,e2.2.2.2.2.2.2.1,e.2.2.2.2.2.2.2.1,rfl,rfl⟩
         ·exact hab
theorem zhC (h:xs.map cor=ys.map cor) (o:Option (ByteArray×ByteArray)):ES (zav nx xs o) (zav nx ys o):=by
 unfold zav
 cases volOf o with
 | none=>exact⟨rfl,h,rfl,rfl⟩
 | some a=>
   simp only
   rw[zaP h]
   cases lookOf ys o with
   | none=>exact⟨rfl,h,rfl,rfl⟩
   | some i=>
     simp only
     rcases getc h i with ⟨h1,h2⟩ | ⟨v,w,h1,h2,hc⟩
     ·rw[h1,h2]
      exact⟨rfl,h,rfl,rfl⟩
     ·rw[h1,h2]
      simp only
      have q:=zaL hc
      have hf:=congrArg List.length (zcR h (fun x=>x.snap && decide (x.own=w.id)) (fun a=>rfl) cor (fun a=>rfl))
      rw[List.length_map,List.length_map] at hf
      rw[q.1,hf]
      split
      ·exact⟨rfl,h,rfl,rfl⟩
      ·exact⟨rfl,zcR h (fun r=>!decide (r.id=w.id)) (fun a=>rfl) cor (fun a=>rfl),hc,rfl⟩
theorem zrA {z z' : zaj} (hz:cor z=cor z') (pr:Int) (d:List PtI) (h:xs.map cor=ys.map cor):(xs.map (zcP z pr d)).map cor=(ys.map (zcP z' pr d)).map cor:=by
 refine zgQ (fun a b hab=>?_) h
 have e2:=zaL hab
 unfold zcP
 rw[e2.1,(zaL hz).1]
 split
 ·exact zfR ⟨e2.1,e2.2.1,e2.2.2.1,e2.2.2.2.1,rfl,e2.2.2.2.2.2.1,e2.2.2.2.2.2.2.1,e2.2.2.2.2.2.2.2.1,rfl,rfl⟩
 ·exact hab
theorem zgR (h:xs.map cor=ys.map cor) (lo:Option Nat) (ok:Bool):EL (zaw nx xs lo ok) (zaw nx ys lo ok):=by
 unfold zaw
 split
 ·exact⟨rfl,h,rfl⟩
 ·cases lo with
  | none=>exact⟨rfl,h,rfl⟩
  | some i=>
    simp only
    rcases getc h i with ⟨h1,h2⟩ | ⟨v,w,h1,h2,hc⟩
    ·rw[h1,h2]
     exact⟨rfl,h,rfl⟩
    ·rw[h1,h2]
     simp only
     have q:=zaL hc
     rw[q.1,zu1 h,zrd h,zbb h,znX h]
     split
     ·exact⟨rfl,h,rfl⟩
     ·cases plcN ys (nextR ys w.id) with
      | none=>exact⟨rfl,h,rfl⟩
      | some j=>
        simp only
        rcases getc h j with ⟨g1,g2⟩ | ⟨z,z',g1,g2,gc⟩
        ·rw[g1,g2]
         exact⟨rfl,h,rfl⟩
        ·rw[g1,g2]
         simp only
         have e:=zaL gc
         rw[e.2.2.2.2.2.2.2.2.2,q.2.2.2.2.2.2.2.2.2,q.2.2.2.2.1]
         cases mrg (oldD (flr ys w.id) z'.dead) w.dead with
         | none=>exact⟨rfl,h,rfl⟩
         | some d=>
           simp only
           split
           ·exact⟨rfl,h,rfl⟩
           ·exact⟨rfl,zcR (zrA gc _ _ h) (fun r=>!decide (r.id=w.id)) (fun a=>rfl) cor (fun a=>rfl),rfl⟩
end
end Go.Am
