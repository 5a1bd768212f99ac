/-
  BOOKS: the document: roles are changed.
-/
import Derived.Test.YtibgmhipepaeaaaCRuF
import Derived.Test.YtibgmhipepaeaaaVRlaw
set_option linter.unusedVariables false
set_option linter.unusedSimpArgs false
set_option maxRecDepth 100000
namespace Go.Am
open Go.Proofs
theorem clash_iff {nx:Int} {rs:List SetR} (R:RightP nx rs) {f:ByteArray} (nf:NameR f) {i:Nat} {v y:SetR} (hl:lookOf rs (spl f)=some i) (hv:rs[i]?= some v) (hy:y∈rs):(∃k,lookOf rs (spl (f ++ atB ++ y.name))=some k)↔Clash rs v.id y.id:=by
 have ny:=R.names y hy
 have hs:spl (f ++ atB ++ y.name)=some (f,y.name):=spl_some (.inr ⟨nf,ny,rfl⟩)
 rw[spl_vol nf] at hl
 have hp:plcC rs (0,f)=some i:=by
  unfold lookOf lookN at hl
  simp only at hl
  cases hq:plcC rs (0,f) with
  | none=>rw[hq] at hl; cases hl
  | some j=>
    rw[hq] at hl
    simp only at hl
    rw[if_pos trivial] at hl
    exact hl
 have hlk:lookOf rs (some (f,y.name))=plcC rs (v.id,y.name):=by
  unfold lookOf lookN
  simp only
  rw[hp]
  simp only
  rw[if_neg ny.ne,hv]
 rw[hs,hlk]
 have v1:=(R.ent (List.mem_of_getElem? hv)).1.1
 obtain⟨jy,hjy,hjy2⟩:=R.fam.place hy
 constructor
 ·rintro⟨k,hk⟩
  obtain⟨r,hr,hc⟩:=plcC_at hk
  have hrm:=List.mem_of_getElem? hr
  have q:=R.calk hrm hc
  have q2:=q.2.2 (by omega)
  exact⟨r,hrm,q2.1,q2.2,jy,y,hjy,hjy2,q.1⟩
 ·rintro⟨s,hs,h1,h2,j,x,h3,h4,h5⟩
  rw[hjy] at h3
  cases h3
  rw[hjy2] at h4
  cases h4
  obtain⟨k,hk⟩:=List.mem_iff_getElem?.1 hs
  exact⟨k,R.look1 hk h1 h2 h5⟩
theorem prom_put {nx:Int} {rs:List SetR} (R:RightP nx rs) {vid:Int} {mv:List Int} {y:SetR} (hy:y∈rs) (x:Int) (hx:y.id=x):putL { y with own:=vid } (rs.map (promF vid mv))=rs.map (promF vid (mv ++ [x])):=by
 unfold putL
 rw[List.map_map]
 refine List.map_congr_left fun r hr=>?_
 simp only[Function.comp]
 have hid:=(promF_id vid mv r).1
 rw[hid]
 by_cases e:r.id=y.id
 ·rw[if_pos e,R.fam.uniq hr hy e,promF_mem (List.mem_append_right _ (List.mem_singleton.2 hx))]
 ·rw[if_neg e]
  by_cases hm:r.id∈mv
  ·rw[promF_mem hm,promF_mem (List.mem_append_left _ hm)]
  ·rw[promF_not hm,promF_not fun q=>(List.mem_append.1 q).elim hm fun q=>e ((List.mem_singleton.1 q).trans hx.symm)]
section
variable {K:Xs} {h:AH} {p:Option Addr} {n c:Nat} {rs:List SetR} {nx:Int}
def KeepS (x:Nat) (p:Option Addr) (n:Nat) (ys:List SetR) (g:AH):Prop:=∀g',g.next≤g'.next→(∀y,y < g.next→y≠x→g'.get y=g.get y)→Sets g' p n ys
theorem KeepS.old {x n:Nat} {p:Option Addr} {ys:List SetR} {g g1:AH} (k:KeepS x p n ys g) (o:Old g g1):KeepS x p n ys g1:=fun g' hn hk=>k g' (Nat.le_trans o.1 hn) fun y hy hne=>(hk y (Nat.lt_of_lt_of_le hy o.1) hne).trans (o.2 y hy)
theorem KeepS.sets {x n:Nat} {p:Option Addr} {ys:List SetR} {g:AH} (k:KeepS x p n ys g):Sets g p n ys:=k g (Nat.le_refl _) fun _ _ _=>rfl
open Classical in
theorem promote17 (kk:KRef17 K) (T:Sets h p n rs) (form:FormP p) (R:RightP nx rs) (hn40:n≤1000) (f:ByteArray) (hf:f.size≤9223372036854775806):
 Wf Try.prog K 68 [.agg #[.int .u64 nx,.slice p n c],.string f] h fun v h'=>ResD (promA nx rs (spl f)) v h'∧Old h h':=by
 refine vc_aquiferref17_Promote kk.promote _ _ _ _ _ h _ fun g0 e0 g1 e1=>?_
 have d1:=HdB.of e0 e1
 have hn:=T.1
 have err:∀{e:Int},promA nx rs (spl f)=(nx,rs,e)→∀{c:Nat} {g g' : AH},BookD nx rs nx p n g'→Old h g'→Near g0.next g g'→ResD (promA nx rs (spl f)) (.tuple #[.agg #[.int .u64 nx,.slice p n c],.int .i64 e]) g'∧Old h g':=fun {e} e' {c} {g} {g'} br o _=>⟨⟨_,_,_,_,by rw[e'],by rw[e']; exact br⟩,o⟩
 refine (vol17 kk f hf).mono ?_
 rintro _ g3 ⟨⟨rfl,a,ha⟩ | ⟨rfl,ha⟩,o3⟩
 ·have d3:=d1.old o3
  obtain⟨hs,rfl,na⟩:=vol_self ha
  refine .inl ⟨rfl,_,_,_,d3.sl,(named16 kk.r16 (c:=c) (T.old d3.o) R a hf).mono ?_⟩
  rintro _ g8 ⟨q,o8⟩
  have d8:=d3.old o8
  rcases namedD q with ⟨i,v,hl,hr,rfl⟩ | ⟨hl,e,he,rfl⟩
  ·have hvs:=vol_snap R ha hl hr
   have hvm:v∈rs:=List.mem_of_getElem? hr
   refine⟨_,_,_,_,_,_,_,_,_,_,_,_,_,_,rfl,fun g23 e23=>?_⟩
   obtain⟨g24,k24,n24,o24,v24⟩:=put_new e23 (vs:=setC v) rfl
   have w24:=(v24 [] (fun c hc=>by cases hc)).1
   have d24:=d8.old o24
   have m8:=d8.lt
   have m0:=d8.n0
   refine⟨rfl,g24,k24,fun _=>⟨_,_,_,d24.sl,_,ld1_at w24 rfl,(back16 kk.r16 (c:=c) (T.old d24.o) R.zero hn40 v.id).mono ?_⟩,fun z=>absurd rfl z⟩
   rintro _ g30 ⟨p1,m1,c1,rfl,-,o30⟩
   have d30:=d24.old o30
   rw[R.back v.id]
   have hA0:promA nx rs (spl a)=match plcN rs (wayR rs v.id).2 with
    | none=>(nx,rs,(174:Int))
    | some jo=>match rs[jo]? with
      | none=>(nx,rs,0)
      | some og=>if ∃m∈(wayW rs og.own 32 og.id []).1,Clash rs v.id m then (nx,rs,171) else (nx,rs.map (promF v.id (wayW rs og.own 32 og.id []).1),0):=by
    unfold promA; rw[ha]; simp only; rw[hl]; simp only; rw[hr]; rfl
   refine⟨_,_,_,_,rfl,fun q0=>errD d30 T form fun g'=>err (by rw[hA0,q0,R.zero]),fun q0=>⟨_,_,_,d30.sl,(find16 kk.r16 (c:=c) (T.old d30.o) (wayR rs v.id).2).mono ?_⟩⟩
   rintro _ g48 ⟨⟨jo,og,hj,hjx,rfl⟩ | ⟨hj,rfl⟩,o48⟩
   ·have d48:=d30.old o48
    obtain⟨w,pre,post,ee,Q⟩:=R.fam.promQ hvm hvs hj hjx
    have hpA:promA nx rs (spl a)=if ∃m∈(wayW rs og.own 32 og.id []).1,Clash rs v.id m then (nx,rs,171) else (nx,rs.map (promF v.id (wayW rs og.own 32 og.id []).1),0):=by
     rw[hA0,hj]; simp only; rw[hjx]
    rw[Q.mv] at hpA
    have hch:=Q.cw.cut
    have hat:(wayR rs v.id).2=og.id:=by
     obtain⟨hjl,hje⟩:=plcN_at hj
     rw[List.getElem?_eq_getElem hjl] at hjx
     rw[←Option.some.inj hjx]
     exact hje.symm
    rw[hat]
    refine⟨_,_,_,_,_,_,_,_,_,_,_,_,_,.inl ⟨rfl,fun g62 e62=>?_⟩⟩
    obtain⟨g63,k63,n63,o63,v63⟩:=put_new e62 (vs:=setC og) rfl
    have wo63:=(v63 [] (fun c hc=>by cases hc)).1
    have d63:=d48.old o63
    have m30:=o30.1
    have m48:=o48.1
    have wv63:=(o63.2 g8.next (by omega)).trans ((o48.2 g8.next (by omega)).trans ((o30.2 g8.next (by omega)).trans w24))
    have hlen:(og :: post).length≤n:=by
     have:=nodup_le (Chn.nodup R.fam hch) (r:=rs.map (·.id)) fun x hx=>by
      obtain⟨y,hy,e⟩:=List.mem_map.1 hx
      exact List.mem_map.2 ⟨y,(hch.mem y hy).1,e⟩
     rw[List.length_map,List.length_map] at this
     omega
    have hid0:rs.map (promF v.id [])=rs:=by
     conv=>rhs; rw[←List.map_id rs]
     exact List.map_congr_left fun r _=>promF_not (by simp)
    have okm:∀{g:AH} {mv:List Int},Old h g→∀x∈rs.map (promF v.id mv),SetOk g x:=fun {g} {mv} o x hx=>by
     obtain⟨y,hy,rfl⟩:=List.mem_map.1 hx
     have k:=(T.ok y hy).old o
     unfold promF
     split
     ·exact⟨k.id,(T.ok v hvm).id,k.prev,k.stamp,k.root,k.dead,k.form,k.room,k.len,k.shows⟩
     ·exact k
    have keep0:KeepS g0.next p n (rs.map (promF v.id [])) g63:=fun g' hn' hk=>by
     rw[hid0]
     exact T.old ⟨Nat.le_trans d63.o.1 hn',fun y hy=>(hk y (by have:=d63.lt; omega) (by omega)).trans (d63.o.2 y hy)⟩
    refine⟨rfl,g63,k63,_,_,_,d63.sl,fun i71 p72 n73 c74 i75 k g=>∃(t:Nat) (A B:List SetR),i75=t∧og :: post=A ++ B∧A.length=t∧n - t=k∧t≤n∧n73=n∧Old g63 g∧FormP p72∧KeepS g0.next p72 n (rs.map (promF v.id (A.map (·.id)))) g∧Chn rs w.id i71 B ee∧∀y∈A,¬Clash rs v.id y.id,
     ⟨_,0,[],og :: post,rfl,rfl,rfl,rfl,Nat.zero_le _,rfl,Old.refl _,form,keep0,hch,fun y hy=>(by cases hy)⟩,?_⟩
    rintro k68 g69 i71 p72 n73 c74 i75 ⟨t,A,B,rfl,hAB,rfl,rfl,ht,rfl,o69,fm,KS,cB,hno⟩
    have d69:=d63.old o69
    have m63:=o69.1
    have wv69:=(o69.2 g8.next (by omega)).trans wv63
    have wo69:=(o69.2 g48.next (by omega)).trans wo63
    have fin:B=[]→∀{g:AH},Old g69 g→∀{c74:Nat},∃i155:Int,ld1 g h.next 0=some (.int .u64 i155)∧(List.length [Value.int .u64 i155,.slice p72 n73 c74]=2)∧∃h156:AH,stN g g0.next 0 [.int .u64 i155,.slice p72 n73 c74]=some h156∧∃i157:Int,∃(p158:Option Addr) (n159 c160:Nat),ldN h156 g0.next 0 2=some [.int .u64 i157,.slice p158 n159 c160]∧(ResD (promA nx rs (spl a)) (.tuple #[.agg #[.int .u64 i157,.slice p158 n159 c160],.int .i64 0]) h156∧Old h h156):=fun hB {g} o {c74}=>by
     subst hB
     rw[List.append_nil] at hAB
     rw[hAB] at hpA
     have dg:=d69.old o
     have m1:=dg.lt
     rw[if_neg (by
      rintro⟨x,hx,hq⟩
      obtain⟨y,hy,rfl⟩:=List.mem_map.1 hx
      exact hno y hy hq)] at hpA
     refine⟨_,dg.nx,rfl,retK (C:=fun i157 p158 n159 c160 h156=>ResD (promA nx rs (spl a)) (.tuple #[.agg #[.int .u64 i157,.slice p158 n159 c160],.int .i64 0]) h156∧Old h h156) (by omega) dg.c1 rfl fun g' nr=>⟨⟨_,_,_,_,by rw[hpA],by rw[hpA]; exact⟨rfl,fm,_,(KS.old o) g' (by rw[nr.1]; exact Nat.le_refl _) fun y hy hne=>nr.2 y hne,rfl⟩⟩,near_old dg.o nr (by omega)⟩⟩
    refine⟨_,_,_,d69.sl,fun z=>⟨_,_,_,d69.sl,(find16 kk.r16 (c:=c) (T.old d69.o) i71).mono ?_⟩,fun z=>?_⟩
    ·rintro _ g83 ⟨⟨js,s,hjs,hsx,rfl⟩ | ⟨hjs,rfl⟩,o83⟩
     ·refine⟨_,_,_,_,_,_,_,_,_,_,_,_,_,.inl ⟨rfl,fun g97 e97=>?_⟩⟩
      obtain⟨g98,k98,n98,o98,v98⟩:=put_new e97 (vs:=setC s) rfl
      have ws98:=(v98 [] (fun c hc=>by cases hc)).1
      have o6998:=o83.trans o98
      have d98:=d69.old o6998
      have m83:=o83.1
      have wo98:=(o6998.2 g48.next (by omega)).trans wo69
      have wv98:=(o6998.2 g8.next (by omega)).trans wv69
      have hsm:s∈rs:=List.mem_of_getElem? hsx
      have hsi:s.id=i71:=by
       obtain⟨h1,h2⟩:=plcN_at hjs
       rw[List.getElem?_eq_getElem h1] at hsx
       rw[←Option.some.inj hsx]
       exact h2
      refine⟨rfl,g98,k98,_,ld1_at ws98 rfl,_,ld1_at wo98 rfl,fun q1=>?_,fun q1=>fin ?_ o6998⟩
      ·cases B with
       | nil=>
         exfalso
         have hend:i71=ee:=cB
         rcases Q.ew with h0 | ⟨x,hx,hxe,hxs,hxo⟩
         ·have:=(R.ent hsm).1.1
          omega
         ·have:=R.fam.uniq hx hsm (hxe.trans (hend.symm.trans hsi.symm))
          subst this
          exact hxo (q1.trans Q.wo)
       | cons y B'=>
         obtain⟨hy1,hy2,hy3,hy4,hy5⟩:=cB
         obtain rfl:=R.fam.uniq hsm hy2 (hsi.trans hy1.symm)
         have f24:=na.2.1
         have s24:=(R.names s hsm).2.1
         refine⟨_,_,_,_,d98.ldN,by show ((a.size+1:Nat):Int)≤_; omega,fun s105 e105=>⟨_,ld1_at ws98 rfl,?_,fun s107 e107=>?_⟩⟩
         ·subst e105
          rw[ByteArray.size_append]
          show ((a.size+1+s.name.size:Nat):Int)≤_
          omega
         ·subst e105
          subst e107
          have hci:=clash_iff R na hl hr hsm
          refine (taken17 kk (c:=c) (T.old d98.o) R (a ++ atB ++ s.name) (by rw[ByteArray.size_append,ByteArray.size_append]; show a.size+1+s.name.size≤_; omega) nx).mono ?_
          rintro _ g109 ⟨⟨rfl,hcl⟩ | ⟨rfl,hcl⟩,o109⟩
          ·refine .inl ⟨rfl,errD (d98.old o109) T form fun g'=>err ?_⟩
           rw[hpA,if_pos]
           exact⟨s.id,by rw[hAB]; simp,hci.1 hcl⟩
          ·have ws109:=(o109.2 g83.next (by omega)).trans ws98
           have wv109:=(o109.2 g8.next (by omega)).trans wv98
           have m109:=o109.1
           obtain⟨g120,k120,nr120,w120⟩:=st1K (v:=.int .u64 v.id) ws109 (i:=3) (by simp[setC])
           have o120:Old g69 g120:=near_old (o6998.trans o109) nr120 (by omega)
           have w120:g120.get g83.next=some (.cells (setC { s with own:=v.id }) 28 false):=w120
           have d120:=d69.old o120
           have oks:=(T.ok s hsm).old d120.o
           refine .inr ⟨rfl,_,ld1_at wv109 rfl,g120,k120,_,_,_,_,_,_,_,_,_,_,_,_,_,ldN_all w120 rfl,(put17 kk (KS.old o120).sets (by omega) (s:={ s with own:=v.id }) ⟨oks.id,(T.ok v hvm).id,oks.prev,oks.stamp,oks.root,oks.dead,oks.form,oks.room,oks.len,oks.shows⟩).mono ?_⟩
           rintro _ g135 ⟨p136,c138,rfl,G,o135⟩
           rw[prom_put R hsm s.id rfl] at G
           have d135:=d120.old o135
           have l120:=d120.lt
           have w135:=(o135.2 g83.next (by rw[nr120.1]; omega)).trans w120
           refine⟨_,_,_,rfl,_,ld1_at w135 rfl,fun i140 e140=>?_⟩
           have hlt:A.length < n73:=by
            rw[hAB,List.length_append,List.length_cons] at hlen
            omega
           have e140:=i64w e140 (by omega) (by omega)
           refine⟨n73 - (A.length+1),by omega,A.length+1,A ++ [s],B',by rw[e140]; rfl,by rw[hAB]; simp,by simp,rfl,by omega,rfl,o69.trans (o120.trans o135),G.form,fun g' hn' hk=>?_,hy5,fun y hy=>?_⟩
           ·have o' : Old h g':=⟨Nat.le_trans d135.o.1 hn',fun y hy=>(hk y (by have:=d135.lt; omega) (by omega)).trans (d135.o.2 y hy)⟩
            have G':=G.keep hn' fun a ha=>hk _ (G.block ha).2 (by have:=(G.block ha).1; omega)
            rw[List.map_append]
            exact grow_sets G' (by omega) (okm o')
           ·rcases mem_snoc.1 hy with hy | rfl
            ·exact hno y hy
            ·exact fun q=>hcl (hci.2 q)
      ·cases B with
       | nil=>rfl
       | cons y B'=>
         obtain⟨hy1,hy2,hy3,hy4,hy5⟩:=cB
         obtain rfl:=R.fam.uniq hsm hy2 (hsi.trans hy1.symm)
         exact absurd (hy3.trans Q.wo.symm) q1
     ·refine⟨_,_,_,_,_,_,_,_,_,_,_,_,_,.inr ⟨rfl,fun g97 e97=>?_⟩⟩
      obtain⟨g98,k98,n98,o98,v98⟩:=put_new e97 (vs:=setC zeroR) rfl
      refine⟨rfl,g98,k98,fin ?_ (o83.trans o98)⟩
      cases B with
      | nil=>rfl
      | cons y B'=>
        obtain⟨hy1,hy2,-⟩:=cB
        exact absurd hy1 (plcN_no hjs y hy2)
    ·refine fin ?_ (Old.refl _)
     have hle:A.length+B.length≤n73:=by rw[←List.length_append,←hAB]; exact hlen
     exact List.length_eq_zero_iff.1 (by omega)
   ·exfalso
    obtain⟨lv,ev,cv,Ev,-⟩:=R.fam.chain hvm hvs
    rw[R.fam.wayR hvm hvs cv Ev] at hj q0
    rcases Ev with h0 | ⟨x,hx,hxe,-⟩
    ·exact q0 h0
    ·exact plcN_no hj x hx hxe
  ·refine⟨_,_,_,_,_,_,_,_,_,_,_,_,_,_,rfl,fun g23 e23=>?_⟩
   obtain⟨g24,k24,n24,o24,v24⟩:=put_new e23 (vs:=setC zeroR) rfl
   exact⟨rfl,g24,k24,fun z=>absurd z he,fun _=>errD (d8.old o24) T form fun g'=>err (by unfold promA; rw[ha]; simp only; rw[hl])⟩
 ·exact .inr ⟨rfl,errD (d1.old o3) T form fun g'=>err (by unfold promA; rw[volOf_none ha])⟩
end
end Go.Am
/-
 BOOKS:an act; what it makes is a family.
-/
set_option linter.unusedVariables false
set_option linter.unusedSimpArgs false
set_option maxRecDepth 100000
namespace Go.Am
open Go.Proofs
theorem flr_is {nx:Int} {rs:List SetR} (F:Fam nx rs) {v:SetR} (hv:v∈rs):FlrIs rs v.prev (flr rs v.id):=by
 obtain⟨j,hj,hjx⟩:=F.place hv
 rw[flr_of hj hjx]
 obtain⟨A,hA,-⟩:=F.elder v hv
 rcases hA with ⟨h1,h2⟩ | ⟨x,hx,h1,h2,h3⟩
 ·exact .inl ⟨h1,by unfold flrOf; rw[if_pos h1]⟩
 ·have:=F.id1 hx
  obtain⟨k,hk,hkx⟩:=F.place hx
  refine .inr ⟨x,hx,h1,h2,?_⟩
  unfold flrOf
  rw[if_neg (by omega),←h1,hk]
  simp only
  rw[hkx]
theorem lookN_calk {nx:Int} {rs:List SetR} {a:ByteArray} (h:lookN rs a noB=none):∀r∈rs,calK r≠(0,a):=by
 unfold lookN at h
 cases hp:plcC rs (0,a) with
 | none=>exact plcC_no hp
 | some i=>rw[hp] at h; simp only at h; rw[if_pos trivial] at h; cases h
theorem createF_right {nx:Int} {rs:List SetR} (R:RightP nx rs) (h1:1≤nx) (h2:nx < 281474976710655) (f:ByteArray) (k:Int):RightP (createF nx rs (spl f) k).1 (createF nx rs (spl f) k).2.1:=by
 unfold createF
 cases hv:volOf (spl f) with
 | none=>exact R
 | some a=>
   simp only
   split
   ·exact R
   ·split
    ·exact R
    ·cases hl:lookOf rs (spl f) with
     | some i=>exact R
     | none=>
       obtain⟨hs,rfl,na⟩:=vol_self hv
       rw[hs] at hl
       exact (R.fam.addVol h1 h2 (by omega) na (lookN_calk (nx:=nx) hl) (by omega) (.inl ⟨rfl,rfl,rfl⟩) (.inl rfl)).right
theorem cloneA_right {nx:Int} {rs:List SetR} (R:RightP nx rs) (h1:1≤nx) (h2:nx < 281474976710655) (f f2:ByteArray):RightP (cloneA nx rs (spl f) (spl f2)).1 (cloneA nx rs (spl f) (spl f2)).2.1:=by
 unfold cloneA
 cases hs:snapOf (spl f) with
 | none=>exact R
 | some q=>
   obtain⟨a0,b0⟩:=q
   simp only
   cases hv:volOf (spl f2) with
   | none=>exact R
   | some a=>
     simp only
     cases hl:lookOf rs (spl f) with
     | none=>exact R
     | some i=>
       simp only
       split
       ·exact R
       ·cases hl2:lookOf rs (spl f2) with
        | some j=>exact R
        | none=>
          simp only
          cases hr:rs[i]? with
          | none=>exact R
          | some s=>
            have hsm:=List.mem_of_getElem? hr
            have es:=R.ent hsm
            obtain⟨hs2,rfl,na⟩:=vol_self hv
            rw[hs2] at hl2
            exact (R.fam.addVol h1 h2 (by omega) na (lookN_calk (nx:=nx) hl2) es.2.2.2.1 es.2.2.2.2.2.1 (.inr ⟨s,hsm,rfl,snap_snap R hs hl hr⟩)).right
theorem snapA_right {nx:Int} {rs:List SetR} (R:RightP nx rs) (h1:1≤nx) (h2:nx < 281474976710655) (f:ByteArray) (st:Int):RightP (snapA nx rs (spl f) st).1 (snapA nx rs (spl f) st).2.1:=by
 unfold snapA
 cases hs:snapOf (spl f) with
 | none=>exact R
 | some q=>
   obtain⟨a,b⟩:=q
   simp only
   obtain⟨hs2,hb,na,nb,-⟩:=snap_self hs
   cases hl:lookN rs a noB with
   | none=>exact R
   | some i=>
     simp only
     split
     ·exact R
     ·cases hl2:lookOf rs (spl f) with
      | some j=>exact R
      | none=>
        simp only
        cases hr:rs[i]? with
        | none=>exact R
        | some v=>
          simp only
          split
          ·exact R
          ·have hvm:=List.mem_of_getElem? hr
           have hvs:v.snap=false:=vol_snap R (o:=some (a,noB)) (a:=a) (by unfold volOf; simp) hl hr
           have hcal:∀r∈rs,calK r≠(v.id,b):=by
            rw[hs2] at hl2
            have hp:plcC rs (0,a)=some i:=by
             unfold lookN at hl
             cases hq:plcC rs (0,a) with
             | none=>rw[hq] at hl; cases hl
             | some j=>
               rw[hq] at hl
               simp only at hl
               rw[if_pos trivial] at hl
               exact hl
            unfold lookOf lookN at hl2
            simp only at hl2
            rw[hp] at hl2
            simp only at hl2
            rw[if_neg hb,hr] at hl2
            exact plcC_no hl2
           have hfl:=flr_is R.fam hvm
           exact (R.fam.addSnap h1 h2 (by omega) hvm hvs nb hcal (st:=st) (by omega) fun Fl hF=>by rw[FlrIs.det R.fam hF hfl]; omega).right
open Classical in
theorem promA_right {nx:Int} {rs:List SetR} (R:RightP nx rs) (f:ByteArray):RightP (promA nx rs (spl f)).1 (promA nx rs (spl f)).2.1:=by
 unfold promA
 cases hv:volOf (spl f) with
 | none=>exact R
 | some a=>
   simp only
   cases hl:lookOf rs (spl f) with
   | none=>exact R
   | some i=>
     simp only
     cases hr:rs[i]? with
     | none=>exact R
     | some v=>
       simp only
       cases hj:plcN rs (wayR rs v.id).2 with
       | none=>exact R
       | some jo=>
         simp only
         cases ho:rs[jo]? with
         | none=>exact R
         | some og=>
           simp only
           split
           ·exact R
           ·rename_i hno
            have hvm:=List.mem_of_getElem? hr
            have hvs:=vol_snap R hv hl hr
            obtain⟨w,pre,post,ee,Q⟩:=R.fam.promQ hvm hvs hj ho
            obtain⟨lv,Cv,Ev,av⟩:=Q.cv
            have hch:=Q.cw.cut
            rw[Q.mv] at hno ⊢
            refine (R.fam.promote hvm hvs Cv Ev av Q.ho Q.os Q.hw Q.ws Q.wo Q.cw Q.ew Q.aw fun m hm s hs h1 h2 h3=>hno ⟨m.id,List.mem_map.2 ⟨m,hm,rfl⟩,s,hs,h1,h2,?_⟩).right
            obtain⟨j,hj1,hj2⟩:=R.fam.place (hch.mem m hm).1
            exact⟨j,m,hj1,hj2,h3⟩
theorem backA_right {nx:Int} {rs:List SetR} (R:RightP nx rs) (f:ByteArray):RightP (backA nx rs (spl f)).1 (backA nx rs (spl f)).2.1:=by
 unfold backA
 cases hv:volOf (spl f) with
 | none=>exact R
 | some a=>
   simp only
   cases hl:lookOf rs (spl f) with
   | none=>exact R
   | some i=>
     simp only
     cases hr:rs[i]? with
     | none=>exact R
     | some v=>
       simp only
       cases hj:plcN rs v.prev with
       | none=>exact R
       | some jo=>
         simp only
         cases ho:rs[jo]? with
         | none=>exact R
         | some x=>
           simp only
           have hx:=R.ent (List.mem_of_getElem? ho)
           refine (R.fam.keep (f:=backF v x.root) (fun r _=>?_) (fun r hr=>?_) fun r hr Fl hF q hq=>?_).right
           ·unfold backF
            split <;> exact⟨rfl,rfl,rfl,rfl,rfl,rfl⟩
           ·have e:=R.ent hr
            unfold backF
            split
            ·exact⟨e.1,e.2.1,e.2.2.1,e.2.2.2.1,e.2.2.2.2.1,hx.2.2.2.2.2.1,Nat.zero_le _,DeadR_nil,e.2.2.2.2.2.2.2.2⟩
            ·exact e
           ·unfold backF at hq
            split at hq
            ·cases hq
            ·obtain⟨F,hF2,-,h3⟩:=R.fam.elder r hr
             rw[FlrIs.det R.fam hF hF2]
             exact h3 q hq
theorem dropVolA_right {nx:Int} {rs:List SetR} (R:RightP nx rs) (f:ByteArray):RightP (dropVolA nx rs (spl f)).1 (dropVolA nx rs (spl f)).2.1:=by
 unfold dropVolA
 cases hv:volOf (spl f) with
 | none=>exact R
 | some a=>
   simp only
   cases hl:lookOf rs (spl f) with
   | none=>exact R
   | some i=>
     simp only
     cases hr:rs[i]? with
     | none=>exact R
     | some v=>
       simp only
       split
       ·exact R
       ·rename_i hno
        refine (R.fam.dropVol (List.mem_of_getElem? hr) (vol_snap R hv hl hr) fun s hs h1 h2=>hno ?_).right
        exact List.length_pos_of_mem (List.mem_filter.2 ⟨hs,by simp[h1,h2]⟩)
theorem killA_right {nx:Int} {rs:List SetR} (R:RightP nx rs) (hdn:∀r∈rs,r.dn=r.dead.length) (id:Int) (l:List PtI):RightP (killA nx rs id l).1 (killA nx rs id l).2.1:=by
 unfold killA
 cases hp:plcN rs id with
 | none=>exact R
 | some i=>
   simp only
   cases hr:rs[i]? with
   | none=>exact R
   | some v=>
     simp only
     have hvm:=List.mem_of_getElem? hr
     have ev:=R.ent hvm
     have hvi:v.id=id:=by
      obtain⟨hi,he⟩:=plcN_at hp
      rw[List.getElem?_eq_getElem hi] at hr
      rw[←Option.some.inj hr]
      exact he
     obtain⟨F0,hF0,-,hd0⟩:=R.fam.elder v hvm
     have hfe:F0=flr rs id:=by rw[←hvi]; exact FlrIs.det R.fam hF0 (flr_is R.fam hvm)
     rw[hfe] at hd0 hF0
     cases hk:killD (flr rs id) l v.dead [] with
     | none=>exact R
     | some q=>
       obtain⟨d,g⟩:=q
       have hlen:v.dead.length≤4000:=by
        have h1:=ev.2.2.2.2.2.2.1
        have h2:=hdn v hvm
        omega
       obtain⟨kd,kl,kf⟩:=killD_ok hk ev.2.2.2.2.2.2.2.1 hlen hd0
       refine (R.fam.keep (f:=dropF v v.prev d) (fun r hr=>?_) (fun r hr=>?_) fun r hr Fl hF q hq=>?_).right
       ·have:=dropF_id v v.prev d r
        refine⟨this.1,this.2.1,this.2.2.2.2,this.2.2.1,this.2.2.2.1,?_⟩
        unfold dropF
        split
        ·rename_i e
         rw[R.fam.uniq hr hvm e]
        ·rfl
       ·have e:=R.ent hr
        unfold dropF
        split
        ·exact⟨e.1,e.2.1,ev.2.2.1,e.2.2.2.1,e.2.2.2.2.1,e.2.2.2.2.2.1,kl,kd,e.2.2.2.2.2.2.2.2⟩
        ·exact e
       ·unfold dropF at hq
        split at hq
        ·rename_i e
         rw[R.fam.uniq hr hvm e] at hF
         rw[FlrIs.det R.fam hF hF0]
         exact kf q hq
        ·obtain⟨F,hF2,-,h3⟩:=R.fam.elder r hr
         rw[FlrIs.det R.fam hF hF2]
         exact h3 q hq
theorem dropSnapA_right {nx:Int} {rs:List SetR} (R:RightP nx rs) (f:ByteArray):RightP (dropSnapA nx rs (lookOf rs (spl f)) (snapOf (spl f)).isSome).1 (dropSnapA nx rs (lookOf rs (spl f)) (snapOf (spl f)).isSome).2.1:=by
 unfold dropSnapA
 cases hs:snapOf (spl f) with
 | none=>exact R
 | some q=>
   obtain⟨a,b⟩:=q
   rw[Option.isSome_some,if_neg (by decide)]
   cases hl:lookOf rs (spl f) with
   | none=>exact R
   | some i=>
     simp only
     cases hr:rs[i]? with
     | none=>exact R
     | some s=>
       simp only
       split
       ·exact R
       ·rename_i hno
        have hsm:=List.mem_of_getElem? hr
        have hss:=snap_snap R hs hl hr
        obtain⟨j,z,hj,hz,zo,zp,-⟩:=R.nextOk hr hss
        have hzm:=List.mem_of_getElem? hz
        rw[hj]
        simp only
        rw[hz]
        simp only
        cases hm:mrg (oldD (flr rs s.id) z.dead) s.dead with
        | none=>exact R
        | some d=>
          simp only
          split
          ·exact R
          ·have es:=R.ent hsm
           have ez:=R.ent hzm
           obtain⟨dd,dm⟩:=DeadR.mrg (ez.2.2.2.2.2.2.2.1.filter _) es.2.2.2.2.2.2.2.1 hm
           obtain⟨F0,hF0,-,hd0⟩:=R.fam.elder s hsm
           have hfl:=flr_is R.fam hsm
           refine (R.fam.dropSnap hsm hss hzm zo zp (fun r hrm hp=>?_) dd (by omega) fun Fl hF q hq=>?_).right
           ·by_cases ho:r.own=s.own
            ·obtain⟨-,⟨a0,ha0,h1,h2,h3⟩⟩:=R.fam.owner s hsm hss
             rw[h3 r hrm ho hp,h3 z hzm zo zp]
            ·exfalso
             apply hno
             obtain⟨k,hk,hkx⟩:=R.fam.place hsm
             unfold clL
             rw[hk]
             simp only
             rw[hkx]
             simp only
             rw[if_pos hss,List.length_map]
             exact List.length_pos_of_mem (List.mem_filter.2 ⟨hrm,by simp[ho,hp]⟩)
           ·rcases (dm q).1 hq with h | h
            ·rw[FlrIs.det R.fam hF hfl]
             exact (oldD_le h).2
            ·rw[FlrIs.det R.fam hF hF0]
             exact hd0 q h
noncomputable def actA (nx:Int) (rs:List SetR) (kind k:Int) (f f2:ByteArray) (id:Int) (l:List PtI):Int×List SetR×SetR×List PtI×Int:=
 if kind=0 then (let o:=createF nx rs (spl f) k; (o.1,o.2.1,zeroR,[],o.2.2))
 else if kind=1 then (let o:=snapA nx rs (spl f) id; (o.1,o.2.1,zeroR,[],o.2.2))
 else if kind=2 then (let o:=cloneA nx rs (spl f) (spl f2); (o.1,o.2.1,zeroR,[],o.2.2))
 else if kind=3 then (let o:=promA nx rs (spl f); (o.1,o.2.1,zeroR,[],o.2.2))
 else if kind=4 then (let o:=backA nx rs (spl f); (o.1,o.2.1,o.2.2.1,[],o.2.2.2))
 else if kind=5 then (let o:=dropVolA nx rs (spl f); (o.1,o.2.1,o.2.2.1,[],o.2.2.2))
 else if kind=6 then (let o:=dropSnapA nx rs (lookOf rs (spl f)) (snapOf (spl f)).isSome; (o.1,o.2.1,zeroR,o.2.2.1,o.2.2.2))
 else if kind=7 then (let o:=killA nx rs id l; (o.1,o.2.1,zeroR,o.2.2.1,o.2.2.2))
 else (nx,rs,zeroR,[],0)
theorem actA_right {nx:Int} {rs:List SetR} (R:RightP nx rs) (hdn:∀r∈rs,r.dn=r.dead.length) (h1:1≤nx) (h2:nx < 281474976710655) (kind k:Int) (f f2:ByteArray) (id:Int) (l:List PtI):RightP (actA nx rs kind k f f2 id l).1 (actA nx rs kind k f f2 id l).2.1:=by
 unfold actA
 split
 ·exact createF_right R h1 h2 f k
 ·split
  ·exact snapA_right R h1 h2 f id
  ·split
   ·exact cloneA_right R h1 h2 f f2
   ·split
    ·exact promA_right R f
    ·split
     ·exact backA_right R f
     ·split
      ·exact dropVolA_right R f
      ·split
       ·exact dropSnapA_right R f
       ·split
        ·exact killA_right R hdn id l
        ·exact R
end Go.Am
/-
 BOOKS:what was made stays,though the places at hand are set.
-/
set_option linter.unusedVariables false
set_option linter.unusedSimpArgs false
set_option maxRecDepth 100000
namespace Go.Am
open Go.Proofs
def TmpC (cs:List Value):Prop:=cs.length≤2∨cs=setC zeroR∨∃a b s t i p n c,cs=[.int .i64 a,.int .i64 b,.string s,.string t,.int .u64 i,.slice p n c]
theorem tmp_ptr {cs:List Value} {off:Nat} {q:PtI} (h:TmpC cs) (hl:off+3≤cs.length) (hq:(cs.drop off).take 3=qC q):q.1=0∧q.2.1=0∧q.2.2=0:=by
 rcases h with h | rfl | ⟨a,b,s,t,i,p,n,c,rfl⟩
 ·omega
 ·have hl' : off≤8:=by rw[setC_len] at hl; omega
  have:off=0∨off=1∨off=2∨off=3∨off=4∨off=5∨off=6∨off=7∨off=8:=by omega
  unfold qC setC zeroR at hq
  rcases this with rfl | rfl | rfl | rfl | rfl | rfl | rfl | rfl | rfl <;> simp at hq
  exact⟨hq.1.symm,hq.2.1.symm,hq.2.2.symm⟩
 ·have hl' : off≤3:=by simp at hl; omega
  have:off=0∨off=1∨off=2∨off=3:=by omega
  unfold qC at hq
  rcases this with rfl | rfl | rfl | rfl <;> simp at hq
theorem tmp_set {cs:List Value} {off:Nat} {r:SetR} (h:TmpC cs) (hl:off+11≤cs.length) (hq:(cs.drop off).take 11=setC r):r.id=0:=by
 rcases h with h | rfl | ⟨a,b,s,t,i,p,n,c,rfl⟩
 ·omega
 ·rw[setC_len] at hl
  obtain rfl:off=0:=by omega
  rw[List.drop_zero,List.take_of_length_le (by rw[setC_len]; omega)] at hq
  unfold setC zeroR at hq
  simp at hq
  exact hq.1.symm
 ·simp at hl
def Stays (g g' : AH):Prop:=g.next≤g'.next∧∀y,y < g.next→g'.get y=g.get y∨∃cs t ro,g.get y=some (.cells cs t ro)∧TmpC cs∧Try.prog.cellsOf t≠3
theorem DL.stays {g g' : AH} {p:Option Addr} {n:Nat} {l:List PtI} (d:DL g p n l) (hq:∀q∈l,¬(q.1=0∧q.2.1=0∧q.2.2=0)) (k:Stays g g'):DL g' p n l:=by
 refine d.kept' k.1 fun hn a ha=>?_
 have hlow:=d.low hn a ha
 rcases k.2 _ hlow with h | ⟨cs,t,ro,h,tm,-⟩
 ·exact h
 ·exfalso
  obtain⟨b,off,rfl,hld,-⟩:=d.at (i:=0) (by have:=d.len; omega)
  cases ha
  unfold ldN at hld
  rw[show g.get b=_ from h] at hld
  simp only at hld
  split at hld
  ·rename_i hl
   exact hq _ (List.getElem_mem _) (tmp_ptr tm hl (Option.some.inj hld))
  ·cases hld
theorem SetOk.stays {g g' : AH} {r:SetR} (k:SetOk g r) (hq:∀q∈r.dead,¬(q.1=0∧q.2.1=0∧q.2.2=0)) (s:Stays g g'):SetOk g' r:=⟨k.id,k.own,k.prev,k.stamp,k.root,k.dead,k.form,k.room,k.len,(k.dl.stays hq s).shows⟩
theorem EntR.noHole {r:SetR} (e:EntR r):∀q∈r.dead,¬(q.1=0∧q.2.1=0∧q.2.2=0):=fun q hq=>(e.2.2.2.2.2.2.2.1.srt.2 q hq).1
theorem Sets.stays {g g' : AH} {p:Option Addr} {n:Nat} {rs:List SetR} (T:Sets g p n rs) (E:∀r∈rs,EntR r) (k:Stays g g'):Sets g' p n rs:=by
 refine sets_of ?_ T.2.1 fun r hr=>(T.ok r hr).stays (E r hr).noHole k
 have S:=T.shows
 refine⟨S.1,?_⟩
 rcases S.2 with h0 | ⟨b,off,al,e,ro,hp,hb,hg,hl,hc⟩
 ·exact .inl h0
 ·by_cases hn:0 < n
  ·rcases k.2 b hb with h | ⟨cs,t,ro2,h,tm,-⟩
   ·exact .inr ⟨b,off,al,e,ro,hp,Nat.lt_of_lt_of_le hb k.1,h.trans hg,hl,hc⟩
   ·exfalso
    obtain⟨b2,off2,hp2,hi',hld,-⟩:=T.at (i:=0) hn
    rw[hp] at hp2
    injection hp2 with hp2
    injection hp2 with e1 e2
    subst e1
    unfold ldN at hld
    rw[h] at hld
    simp only at hld
    split at hld
    ·rename_i hl2
     have:=tmp_set tm hl2 (Option.some.inj hld)
     have:=(E _ (List.getElem_mem hi')).1.1
     omega
    ·cases hld
  ·exact .inl (by omega)
def BookS (nx:Int) (R:List SetR) (i:Int) (p:Option Addr) (n:Nat) (g:AH):Prop:=i=nx∧∃rs',Sets g p n rs'∧rs'.map cor=R.map cor
theorem BookR.s {nx:Int} {R:List SetR} {i:Int} {p:Option Addr} {n:Nat} {g:AH} (b:BookR nx R i p n g):BookS nx R i p n g:=⟨b.1,b.2.elim fun rs' h=>⟨rs',h.1.1,h.2⟩⟩
theorem BookD.s {nx:Int} {R:List SetR} {i:Int} {p:Option Addr} {n:Nat} {g:AH} (b:BookD nx R i p n g):BookS nx R i p n g:=⟨b.1,b.2.2⟩
theorem BookS.stays {nx:Int} {R:List SetR} {i:Int} {p:Option Addr} {n:Nat} {g g' : AH} (b:BookS nx R i p n g) (rp:RightP nx R) (k:Stays g g'):BookS nx R i p n g':=by
 obtain⟨h1,rs',h2,h3⟩:=b
 have rp':=rp.cor h3.symm
 exact⟨h1,rs',h2.stays (fun r hr=>rp'.ent hr) k,h3⟩
theorem BookD.stays {nx:Int} {R:List SetR} {i:Int} {p:Option Addr} {n:Nat} {g g' : AH} (b:BookD nx R i p n g) (rp:RightP nx R) (k:Stays g g'):BookD nx R i p n g':=⟨b.1,b.2.1,(b.s.stays rp k).2⟩
theorem RecOk.stays {g g' : AH} {r:SetR} (k:RecOk g r) (e:EntR r) (s:Stays g g'):RecOk g' r:=by
 refine⟨k.1.stays e.noHole s,?_,fun a ha=>Nat.lt_of_lt_of_le (k.2.2 a ha) s.1⟩
 rcases k.2.1 with c | ⟨b,off,hp,c⟩
 ·exact .inl c
 ·refine .inr ⟨b,off,hp,?_⟩
  rcases c with c | ⟨c,cs,t,ro,hg,ht⟩
  ·exact .inl c
  ·have hb:b < g.next:=k.2.2 _ hp
   rcases s.2 b hb with h | ⟨cs2,t2,ro2,h,-,h3⟩
   ·exact .inr ⟨c,cs,t,ro,h.trans hg,ht⟩
   ·rw[hg] at h
    cases h
    exact absurd (ht.trans (by simp)) h3
theorem BookR.stays {nx:Int} {R:List SetR} {i:Int} {p:Option Addr} {n:Nat} {g g' : AH} (b:BookR nx R i p n g) (rp:RightP nx R) (k:Stays g g'):BookR nx R i p n g':=by
 obtain⟨h1,rs',h2,h3⟩:=b
 have rp':=rp.cor h3.symm
 exact⟨h1,rs',⟨h2.1.stays (fun r hr=>rp'.ent hr) k,fun r hr=>(h2.2 r hr).stays (rp'.ent hr) k⟩,h3⟩
theorem Sets.dn {g:AH} {p:Option Addr} {n:Nat} {rs:List SetR} (T:Sets g p n rs):∀r∈rs,r.dn=r.dead.length:=fun r hr=>(T.ok r hr).len
theorem killD_mem {fl:Int}:∀{l d g d' g' : List PtI},killD fl l d g=some (d',g')→(∀q∈g,fl < q.2.1)→∀q∈g',fl < q.2.1
 | [],d,g,d',g',h,hg=>by
   rw[killD_nil] at h
   cases h
   exact hg
 | q :: l,d,g,d',g',h,hg=>by
   by_cases hq:fl < q.2.1
   ·rw[killD_gone hq] at h
    refine killD_mem h fun x hx=>?_
    rcases List.mem_append.1 hx with hx | hx
    ·exact hg x hx
    ·rw[List.mem_singleton] at hx
     rw[hx]
     exact hq
   ·cases ha:addD d q with
    | none=>rw[killD_none hq ha] at h; cases h
    | some d2=>
      by_cases hl:4000 < d2.length
      ·rw[killD_many hq ha hl] at h; cases h
      ·rw[killD_keep hq ha hl] at h
       exact killD_mem h hg
theorem killA_noHole {nx:Int} {rs:List SetR} (R:RightP nx rs) (id:Int) (l:List PtI):∀q∈(killA nx rs id l).2.2.1,¬(q.1=0∧q.2.1=0∧q.2.2=0):=by
 unfold killA
 cases hp:plcN rs id with
 | none=>intro q hq; cases hq
 | some i=>
   simp only
   cases hr:rs[i]? with
   | none=>intro q hq; cases hq
   | some v=>
     simp only
     cases hk:killD (flr rs id) l v.dead [] with
     | none=>intro q hq; cases hq
     | some x=>
       obtain⟨d,g⟩:=x
       intro q hq z
       have:=killD_mem hk (fun q hq=>by cases hq) q hq
       have:=R.flr0 id
       omega
theorem dropSnapA_noHole {nx:Int} {rs:List SetR} (R:RightP nx rs) (lo:Option Nat) (ok:Bool):∀q∈(dropSnapA nx rs lo ok).2.2.1,¬(q.1=0∧q.2.1=0∧q.2.2=0):=by
 unfold dropSnapA
 split
 ·intro q hq; cases hq
 ·cases lo with
  | none=>intro q hq; cases hq
  | some i=>
    simp only
    cases hr:rs[i]? with
    | none=>intro q hq; cases hq
    | some s=>
      simp only
      split
      ·intro q hq; cases hq
      ·cases hj:plcN rs (nextR rs s.id) with
       | none=>intro q hq; cases hq
       | some j=>
         simp only
         cases hz:rs[j]? with
         | none=>intro q hq; cases hq
         | some z=>
           simp only
           cases hm:mrg (oldD (flr rs s.id) z.dead) s.dead with
           | none=>intro q hq; cases hq
           | some d=>
             simp only
             split
             ·intro q hq; cases hq
             ·intro q hq w
              have h1:=(List.mem_filter.1 hq).2
              have:=R.flr0 s.id
              simp at h1
              omega
theorem backA_s {nx:Int} {rs:List SetR} (R:RightP nx rs) (o:Option (ByteArray×ByteArray)):∀q∈(backA nx rs o).2.2.1.dead,¬(q.1=0∧q.2.1=0∧q.2.2=0):=by
 unfold backA
 cases hv:volOf o with
 | none=>intro q hq; cases hq
 | some a=>
   simp only
   cases hl:lookOf rs o with
   | none=>intro q hq; cases hq
   | some i=>
     simp only
     cases hr:rs[i]? with
     | none=>intro q hq; cases hq
     | some v=>
       simp only
       cases hj:plcN rs v.prev with
       | none=>intro q hq; cases hq
       | some jo=>
         simp only
         cases ho:rs[jo]? with
         | none=>intro q hq; cases hq
         | some x=>exact (R.ent (List.mem_of_getElem? hr)).noHole
theorem dropVolA_s {nx:Int} {rs:List SetR} (R:RightP nx rs) (o:Option (ByteArray×ByteArray)):∀q∈(dropVolA nx rs o).2.2.1.dead,¬(q.1=0∧q.2.1=0∧q.2.2=0):=by
 unfold dropVolA
 cases hv:volOf o with
 | none=>intro q hq; cases hq
 | some a=>
   simp only
   cases hl:lookOf rs o with
   | none=>intro q hq; cases hq
   | some i=>
     simp only
     cases hr:rs[i]? with
     | none=>intro q hq; cases hq
     | some v=>
       simp only
       split
       ·intro q hq; cases hq
       ·exact (R.ent (List.mem_of_getElem? hr)).noHole
theorem actTail {g:AH} {bh b1 b2 b3:Nat} {i:Int} {p' : Option Addr} {n' c' : Nat} {cs1 cs2:List Value} {s:SetR} (cb:g.get bh=some (.cells [.int .u64 i,.slice p' n' c'] 36 false)) (c1:g.get b1=some (.cells cs1 36 false)) (l1:cs1.length=2) (c2:g.get b2=some (.cells cs2 28 false)) (l2:cs2.length=11) (c3:g.get b3=some (.cells (setC s) 28 false)) (h12:b1≠b2) (h31:b3≠b1)
 {C:Int→Option Addr→Nat→Nat→AH→Prop} (HC:∀g',(∀y,y≠b1→y≠b2→g'.get y=g.get y)→g'.next=g.next→g'.get b2=some (.cells (setC s) 28 false)→C i p' n' c' g'):
 ∃i22:Int,∃(p23:Option Addr) (n24 c25:Nat),ldN g bh 0 2=some [.int .u64 i22,.slice p23 n24 c25]∧(List.length [Value.int .u64 i22,.slice p23 n24 c25]=2)∧∃h26:AH,stN g b1 0 [.int .u64 i22,.slice p23 n24 c25]=some h26∧
  ∃i41:Int,∃s42:ByteArray,∃b43:Bool,∃i44:Int,∃i45:Int,∃i46:Int,∃i47:Int,∃i48:Int,∃i49:Int,∃i50:Int,∃(p51:Option Addr) (n52 c53:Nat),ldN h26 b3 0 11=some [.int .u64 i41,.string s42,.bool b43,.int .u64 i44,.int .u64 i45,.int .u64 i46,.int .i64 i47,.int .i64 i48,.int .u64 i49,.int .u32 i50,.slice p51 n52 c53]∧
  (List.length [Value.int .u64 i41,.string s42,.bool b43,.int .u64 i44,.int .u64 i45,.int .u64 i46,.int .i64 i47,.int .i64 i48,.int .u64 i49,.int .u32 i50,.slice p51 n52 c53]=11)∧
  ∃h40:AH,stN h26 b2 0 [.int .u64 i41,.string s42,.bool b43,.int .u64 i44,.int .u64 i45,.int .u64 i46,.int .i64 i47,.int .i64 i48,.int .u64 i49,.int .u32 i50,.slice p51 n52 c53]=some h40∧
  ldN g b3 0 11=some [.int .u64 i41,.string s42,.bool b43,.int .u64 i44,.int .u64 i45,.int .u64 i46,.int .i64 i47,.int .i64 i48,.int .u64 i49,.int .u32 i50,.slice p51 n52 c53]∧
  ldN h26 b3 0 11=some [.int .u64 i41,.string s42,.bool b43,.int .u64 i44,.int .u64 i45,.int .u64 i46,.int .i64 i47,.int .i64 i48,.int .u64 i49,.int .u32 i50,.slice p51 n52 c53]∧
  ∃i41:Int,∃(p42:Option Addr) (n43 c44:Nat),ldN h40 b1 0 2=some [.int .u64 i41,.slice p42 n43 c44]∧C i41 p42 n43 c44 h40:=by
 have s1:=near_set b1 g (.cells [.int .u64 i,.slice p' n' c'] 36 false)
 have c3':=(s1.2 b3 h31).trans c3
 have c2':=(s1.2 b2 (Ne.symm h12)).trans c2
 have s2:=near_set b2 (g.set b1 (.cells [.int .u64 i,.slice p' n' c'] 36 false)) (.cells (setC s) 28 false)
 exact⟨_,_,_,_,ldN_all cb rfl,rfl,_,stN_all c1 (by rw[l1]; rfl),_,_,_,_,_,_,_,_,_,_,_,_,_,ldN_all c3' rfl,rfl,_,stN_all (vs:=setC s) c2' (by rw[l2]; rfl),ldN_all c3 rfl,ldN_all c3' rfl,_,_,_,_,ldN_all ((s2.2 _ h12).trans (get_set_self _ _ _)) rfl,HC _ (fun y h1 h2=>(s2.2 y h2).trans (s1.2 y h1)) rfl (get_set_self _ _ _)⟩
end Go.Am
/-
 BOOKS:an act is done,and what it is to make.
-/
set_option linter.unusedVariables false
set_option linter.unusedSimpArgs false
set_option maxRecDepth 100000
namespace Go.Am
open Go.Proofs
def ActQ (B:Int→List SetR→Int→Option Addr→Nat→AH→Prop) (o:Int×List SetR×SetR×List PtI×Int) (v:Value) (g:AH):Prop:=∃i p' n' c' s ql qn qc,v=.tuple #[.agg #[.int .u64 i,.slice p' n' c'],.agg (setC s).toArray,.slice ql qn qc,.int .i64 o.2.2.2.2]∧B o.1 o.2.1 i p' n' g∧SetOk g s∧cor s=cor o.2.2.1∧DL g ql qn o.2.2.2.1
structure KLaw17 (K:Xs):Prop where
 want:K 37=none
 do_:K 36=none
section
variable {K:Xs} {h:AH} {p:Option Addr} {n c:Nat} {rs:List SetR} {nx:Int}
theorem wantSpec (kl:KLaw17 K) (kk:KRef17 K) (T:Sets h p n rs) (form:FormP p) (R:RightP nx rs) (hn40:n≤1000) (hbn:0≤nx∧nx < 281474976710655) (h1n:1≤nx) (kind kN:Int) (f f2:ByteArray) (hf:f.size≤9223372036854775806) (hf2:f2.size≤9223372036854775806) (id:Int) (hid:(Lit.int .u64 id).wf=true) {pl:Option Addr} {m cl:Nat} {l:List PtI} (DLl:DL h pl m l) (hm:m≤100000):
 Wf Try.prog K 37 [.agg #[.int .u64 nx,.slice p n c],.agg #[.int .i64 kind,.int .i64 kN,.string f,.string f2,.int .u64 id,.slice pl m cl]] h fun v h'=>ActQ BookD (actA nx rs kind kN f f2 id l) v h'∧Old h h':=by
 refine vc_aquiferlaw17_want kl.want _ _ _ _ _ _ _ _ _ _ _ _ h _ fun g0 e0 g1 e1 g2 e2 g3 e3 g4 e4=>?_
 have o0:=old_of_alloc e0
 have o1:=old_of_alloc e1
 have o2:=old_of_alloc e2
 have o3:=old_of_alloc e3
 have n0:=next_of_alloc e0
 have n1:=next_of_alloc e1
 have n2:=next_of_alloc e2
 have n3:=next_of_alloc e3
 obtain⟨g5,k5,n5,o5,v5⟩:=put_new e4 (vs:=setC zeroR) rfl
 refine⟨rfl,g5,k5,fun g6 e6=>?_⟩
 have o6:=old_of_alloc e6
 have n6:=next_of_alloc e6
 have o56:=o5.trans o6
 have oh6:=(((o0.trans o1).trans o2).trans o3).trans o56
 have hbn' : 0≤nx∧nx < 1000000000000000:=by omega
 have cb6:g6.get h.next=some (.cells [.int .u64 nx,.slice p n c] 36 false):=(o56.2 _ (by omega)).trans ((o3.2 _ (by omega)).trans ((o2.2 _ (by omega)).trans ((o1.2 _ (by omega)).trans (get_of_alloc e0))))
 have ca6:g6.get g0.next=some (.cells [.int .i64 kind,.int .i64 kN,.string f,.string f2,.int .u64 id,.slice pl m cl] 58 false):=(o56.2 _ (by omega)).trans ((o3.2 _ (by omega)).trans ((o2.2 _ (by omega)).trans (get_of_alloc e1)))
 have c16:g6.get g1.next=some (.cells [.int .u64 0,.slice none 0 0] 36 false):=(o56.2 _ (by omega)).trans ((o3.2 _ (by omega)).trans (get_of_alloc e2))
 have c26:g6.get g2.next=some (.cells (setC zeroR) 28 false):=(o56.2 _ (by omega)).trans (get_of_alloc e3)
 have c36:g6.get g3.next=some (.cells (setC zeroR) 28 false):=(o6.2 _ (by omega)).trans (v5 [] (fun c hc=>by cases hc)).1
 have l6:g3.next < g6.next:=by omega
 have stay:∀{g g' : AH},Old g6 g→(∀y,y≠h.next→y≠g1.next→y≠g2.next→y≠g3.next→g'.get y=g.get y)→g'.next=g.next→Stays g g'∧Old h g':=fun {g g'} o hy hx=>by
  refine⟨⟨by rw[hx]; exact Nat.le_refl _,fun y hyl=>?_⟩,⟨by rw[hx]; exact Nat.le_trans oh6.1 o.1,fun y hyl=>(hy y (by omega) (by omega) (by omega) (by omega)).trans ((o.2 y (by omega)).trans (oh6.2 y hyl))⟩⟩
  by_cases a1:y=h.next
  ·exact .inr ⟨_,_,_,by rw[a1]; exact (o.2 _ (by omega)).trans cb6,.inl (by simp),by simp⟩
  ·by_cases a2:y=g1.next
   ·exact .inr ⟨_,_,_,by rw[a2]; exact (o.2 _ (by omega)).trans c16,.inl (by simp),by simp⟩
   ·by_cases a3:y=g2.next
    ·exact .inr ⟨_,_,_,by rw[a3]; exact (o.2 _ (by omega)).trans c26,.inr (.inl rfl),by simp⟩
    ·by_cases a4:y=g3.next
     ·exact .inr ⟨_,_,_,by rw[a4]; exact (o.2 _ (by omega)).trans c36,.inr (.inl rfl),by simp⟩
     ·exact .inl (hy y a1 a2 a3 a4)
 have lst:DL g6 (some ⟨g5.next,0,none⟩) 0 []:=⟨⟨rfl,.inl rfl⟩,fun q hq=>(by cases hq),rfl,.inr ⟨_,_,rfl⟩⟩
 have T6:=T.old oh6
 have aR:=actA_right R T.dn h1n hbn.2 kind kN f f2 id l
 refine⟨kind,ld1_at ca6 rfl,?_⟩
 refine⟨fun q0=>?_,fun q0=>?_⟩
 ·have hA:actA nx rs kind kN f f2 id l=(let o:=createF nx rs (spl f) kN; (o.1,o.2.1,zeroR,[],o.2.2)):=by unfold actA; exact if_pos q0
  simp only at hA
  refine⟨_,_,_,_,ldN_all cb6 rfl,_,ld1_at ca6 rfl,_,ld1_at ca6 rfl,(create17 kk T6 form R hn40 hbn' f hf kN).mono ?_⟩
  rintro _ g15 ⟨⟨i,p',n',c',rfl,br⟩,o15⟩
  have s1:=near_set h.next g15 (.cells [.int .u64 i,.slice p' n' c'] 36 false)
  have w1:=(s1.2 g1.next (by omega)).trans ((o15.2 _ (by omega)).trans c16)
  have w2:=(s1.2 g2.next (by omega)).trans ((o15.2 _ (by omega)).trans c26)
  have w3:=(s1.2 g3.next (by omega)).trans ((o15.2 _ l6).trans c36)
  rw[hA] at aR
  refine⟨_,_,_,_,_,rfl,rfl,_,stN_all ((o15.2 _ (by omega)).trans cb6) rfl,actTail (get_set_self _ _ _) w1 rfl w2 rfl w3 (by omega) (by omega) fun g' hy hx hs=>?_⟩
  obtain⟨st,oh⟩:=stay o15 (fun y a1 a2 a3 a4=>(hy y a2 a3).trans (s1.2 y a1)) (hx.trans s1.1)
  exact⟨_,_,_,_,_,_,_,_,_,_,_,_,_,ldN_all hs rfl,⟨i,p',n',c',zeroR,_,_,_,by rw[hA]; rfl,by rw[hA]; exact br.stays aR st,zeroSet _,by rw[hA],by rw[hA]; exact (lst.old o15).stays (fun q hq=>by cases hq) st⟩,oh⟩
 ·skip
  refine⟨fun q1=>?_,fun q1=>?_⟩
  ·have hA:actA nx rs kind kN f f2 id l=(let o:=snapA nx rs (spl f) id; (o.1,o.2.1,zeroR,[],o.2.2)):=by unfold actA; rw[if_neg q0]; exact if_pos q1
   simp only at hA
   refine⟨_,_,_,_,ldN_all cb6 rfl,_,ld1_at ca6 rfl,_,ld1_at ca6 rfl,(snapA17 kk T6 form R hn40 hbn' f hf id hid).mono ?_⟩
   rintro _ g15 ⟨⟨i,p',n',c',rfl,br⟩,o15⟩
   have s1:=near_set h.next g15 (.cells [.int .u64 i,.slice p' n' c'] 36 false)
   have w1:=(s1.2 g1.next (by omega)).trans ((o15.2 _ (by omega)).trans c16)
   have w2:=(s1.2 g2.next (by omega)).trans ((o15.2 _ (by omega)).trans c26)
   have w3:=(s1.2 g3.next (by omega)).trans ((o15.2 _ l6).trans c36)
   rw[hA] at aR
   refine⟨_,_,_,_,_,rfl,rfl,_,stN_all ((o15.2 _ (by omega)).trans cb6) rfl,actTail (get_set_self _ _ _) w1 rfl w2 rfl w3 (by omega) (by omega) fun g' hy hx hs=>?_⟩
   obtain⟨st,oh⟩:=stay o15 (fun y a1 a2 a3 a4=>(hy y a2 a3).trans (s1.2 y a1)) (hx.trans s1.1)
   exact⟨_,_,_,_,_,_,_,_,_,_,_,_,_,ldN_all hs rfl,⟨i,p',n',c',zeroR,_,_,_,by rw[hA]; rfl,by rw[hA]; exact br.stays aR st,zeroSet _,by rw[hA],by rw[hA]; exact (lst.old o15).stays (fun q hq=>by cases hq) st⟩,oh⟩
  ·skip
   refine⟨fun q2=>?_,fun q2=>?_⟩
   ·have hA:actA nx rs kind kN f f2 id l=(let o:=cloneA nx rs (spl f) (spl f2); (o.1,o.2.1,zeroR,[],o.2.2)):=by unfold actA; rw[if_neg q0]; rw[if_neg q1]; exact if_pos q2
    simp only at hA
    refine⟨_,_,_,_,ldN_all cb6 rfl,_,ld1_at ca6 rfl,_,ld1_at ca6 rfl,(clone17 kk T6 form R hn40 hbn' f hf f2 hf2).mono ?_⟩
    rintro _ g15 ⟨⟨i,p',n',c',rfl,br⟩,o15⟩
    have s1:=near_set h.next g15 (.cells [.int .u64 i,.slice p' n' c'] 36 false)
    have w1:=(s1.2 g1.next (by omega)).trans ((o15.2 _ (by omega)).trans c16)
    have w2:=(s1.2 g2.next (by omega)).trans ((o15.2 _ (by omega)).trans c26)
    have w3:=(s1.2 g3.next (by omega)).trans ((o15.2 _ l6).trans c36)
    rw[hA] at aR
    refine⟨_,_,_,_,_,rfl,rfl,_,stN_all ((o15.2 _ (by omega)).trans cb6) rfl,actTail (get_set_self _ _ _) w1 rfl w2 rfl w3 (by omega) (by omega) fun g' hy hx hs=>?_⟩
    obtain⟨st,oh⟩:=stay o15 (fun y a1 a2 a3 a4=>(hy y a2 a3).trans (s1.2 y a1)) (hx.trans s1.1)
    exact⟨_,_,_,_,_,_,_,_,_,_,_,_,_,ldN_all hs rfl,⟨i,p',n',c',zeroR,_,_,_,by rw[hA]; rfl,by rw[hA]; exact br.stays aR st,zeroSet _,by rw[hA],by rw[hA]; exact (lst.old o15).stays (fun q hq=>by cases hq) st⟩,oh⟩
   ·skip
    refine⟨fun q3=>?_,fun q3=>?_⟩
    ·have hA:actA nx rs kind kN f f2 id l=(let o:=promA nx rs (spl f); (o.1,o.2.1,zeroR,[],o.2.2)):=by unfold actA; rw[if_neg q0]; rw[if_neg q1]; rw[if_neg q2]; exact if_pos q3
     simp only at hA
     refine⟨_,_,_,_,ldN_all cb6 rfl,_,ld1_at ca6 rfl,(promote17 kk T6 form R hn40 f hf).mono ?_⟩
     rintro _ g15 ⟨⟨i,p',n',c',rfl,br⟩,o15⟩
     have s1:=near_set h.next g15 (.cells [.int .u64 i,.slice p' n' c'] 36 false)
     have w1:=(s1.2 g1.next (by omega)).trans ((o15.2 _ (by omega)).trans c16)
     have w2:=(s1.2 g2.next (by omega)).trans ((o15.2 _ (by omega)).trans c26)
     have w3:=(s1.2 g3.next (by omega)).trans ((o15.2 _ l6).trans c36)
     rw[hA] at aR
     refine⟨_,_,_,_,_,rfl,rfl,_,stN_all ((o15.2 _ (by omega)).trans cb6) rfl,actTail (get_set_self _ _ _) w1 rfl w2 rfl w3 (by omega) (by omega) fun g' hy hx hs=>?_⟩
     obtain⟨st,oh⟩:=stay o15 (fun y a1 a2 a3 a4=>(hy y a2 a3).trans (s1.2 y a1)) (hx.trans s1.1)
     exact⟨_,_,_,_,_,_,_,_,_,_,_,_,_,ldN_all hs rfl,⟨i,p',n',c',zeroR,_,_,_,by rw[hA]; rfl,by rw[hA]; exact br.stays aR st,zeroSet _,by rw[hA],by rw[hA]; exact (lst.old o15).stays (fun q hq=>by cases hq) st⟩,oh⟩
    ·skip
     refine⟨fun q4=>?_,fun q4=>?_⟩
     ·have hA:actA nx rs kind kN f f2 id l=(let o:=backA nx rs (spl f); (o.1,o.2.1,o.2.2.1,[],o.2.2.2)):=by unfold actA; rw[if_neg q0]; rw[if_neg q1]; rw[if_neg q2]; rw[if_neg q3]; exact if_pos q4
      simp only at hA
      refine⟨_,_,_,_,ldN_all cb6 rfl,_,ld1_at ca6 rfl,(back17 kk T6 form R hn40 f hf).mono ?_⟩
      rintro _ g15 ⟨⟨i,p',n',c',s,rfl,br,oks,hcs⟩,o15⟩
      have s1:=near_set h.next g15 (.cells [.int .u64 i,.slice p' n' c'] 36 false)
      have w1:=(s1.2 g1.next (by omega)).trans ((o15.2 _ (by omega)).trans c16)
      have w2:=(s1.2 g2.next (by omega)).trans ((o15.2 _ (by omega)).trans c26)
      have w3:=(s1.2 g3.next (by omega)).trans ((o15.2 _ l6).trans c36)
      rw[hA] at aR
      have s3:=near_set g3.next (g15.set h.next (.cells [.int .u64 i,.slice p' n' c'] 36 false)) (.cells (setC s) 28 false)
      refine⟨_,_,_,_,_,_,_,_,_,_,_,_,_,_,_,_,_,_,rfl,rfl,_,stN_all ((o15.2 _ (by omega)).trans cb6) rfl,rfl,_,stN_all (vs:=setC s) w3 rfl,actTail ((s3.2 h.next (by omega)).trans (get_set_self _ _ _)) ((s3.2 g1.next (by omega)).trans w1) rfl ((s3.2 g2.next (by omega)).trans w2) rfl (get_set_self _ _ _) (by omega) (by omega) fun g' hy hx hs=>?_⟩
      obtain⟨st,oh⟩:=stay o15 (fun y a1 a2 a3 a4=>(hy y a2 a3).trans ((s3.2 y a4).trans (s1.2 y a1))) (hx.trans (s3.1.trans s1.1))
      have hsd:∀q∈s.dead,¬(q.1=0∧q.2.1=0∧q.2.2=0):=by rw[(cor_eq hcs).2.2.2.2.2.2.2.2.2]; exact backA_s R _
      exact⟨_,_,_,_,_,_,_,_,_,_,_,_,_,ldN_all hs rfl,⟨i,p',n',c',s,_,_,_,by rw[hA]; rfl,by rw[hA]; exact br.stays aR st,oks.stays hsd st,by rw[hA]; exact hcs,by rw[hA]; exact (lst.old o15).stays (fun q hq=>by cases hq) st⟩,oh⟩
     ·skip
      refine⟨fun q5=>?_,fun q5=>?_⟩
      ·have hA:actA nx rs kind kN f f2 id l=(let o:=dropVolA nx rs (spl f); (o.1,o.2.1,o.2.2.1,[],o.2.2.2)):=by unfold actA; rw[if_neg q0]; rw[if_neg q1]; rw[if_neg q2]; rw[if_neg q3]; rw[if_neg q4]; exact if_pos q5
       simp only at hA
       refine⟨_,_,_,_,ldN_all cb6 rfl,_,ld1_at ca6 rfl,(dropVol17 kk T6 form R hn40 f hf).mono ?_⟩
       rintro _ g15 ⟨⟨i,p',n',c',s,rfl,br,oks,hcs⟩,o15⟩
       have s1:=near_set h.next g15 (.cells [.int .u64 i,.slice p' n' c'] 36 false)
       have w1:=(s1.2 g1.next (by omega)).trans ((o15.2 _ (by omega)).trans c16)
       have w2:=(s1.2 g2.next (by omega)).trans ((o15.2 _ (by omega)).trans c26)
       have w3:=(s1.2 g3.next (by omega)).trans ((o15.2 _ l6).trans c36)
       rw[hA] at aR
       have s3:=near_set g3.next (g15.set h.next (.cells [.int .u64 i,.slice p' n' c'] 36 false)) (.cells (setC s) 28 false)
       refine⟨_,_,_,_,_,_,_,_,_,_,_,_,_,_,_,_,_,_,rfl,rfl,_,stN_all ((o15.2 _ (by omega)).trans cb6) rfl,rfl,_,stN_all (vs:=setC s) w3 rfl,actTail ((s3.2 h.next (by omega)).trans (get_set_self _ _ _)) ((s3.2 g1.next (by omega)).trans w1) rfl ((s3.2 g2.next (by omega)).trans w2) rfl (get_set_self _ _ _) (by omega) (by omega) fun g' hy hx hs=>?_⟩
       obtain⟨st,oh⟩:=stay o15 (fun y a1 a2 a3 a4=>(hy y a2 a3).trans ((s3.2 y a4).trans (s1.2 y a1))) (hx.trans (s3.1.trans s1.1))
       have hsd:∀q∈s.dead,¬(q.1=0∧q.2.1=0∧q.2.2=0):=by rw[(cor_eq hcs).2.2.2.2.2.2.2.2.2]; exact dropVolA_s R _
       exact⟨_,_,_,_,_,_,_,_,_,_,_,_,_,ldN_all hs rfl,⟨i,p',n',c',s,_,_,_,by rw[hA]; rfl,by rw[hA]; exact br.stays aR st,oks.stays hsd st,by rw[hA]; exact hcs,by rw[hA]; exact (lst.old o15).stays (fun q hq=>by cases hq) st⟩,oh⟩
      ·skip
       refine⟨fun q6=>?_,fun q6=>?_⟩
       ·have hA:actA nx rs kind kN f f2 id l=(let o:=dropSnapA nx rs (lookOf rs (spl f)) (snapOf (spl f)).isSome; (o.1,o.2.1,zeroR,o.2.2.1,o.2.2.2)):=by unfold actA; rw[if_neg q0]; rw[if_neg q1]; rw[if_neg q2]; rw[if_neg q3]; rw[if_neg q4]; rw[if_neg q5]; exact if_pos q6
        simp only at hA
        refine⟨_,_,_,_,ldN_all cb6 rfl,_,ld1_at ca6 rfl,(dropSnap17 kk T6 form R hn40 f hf rfl).mono ?_⟩
        rintro _ g15 ⟨⟨i,p',n',c',ql,qn,qc,rfl,br,dl⟩,o15⟩
        have s1:=near_set h.next g15 (.cells [.int .u64 i,.slice p' n' c'] 36 false)
        have w1:=(s1.2 g1.next (by omega)).trans ((o15.2 _ (by omega)).trans c16)
        have w2:=(s1.2 g2.next (by omega)).trans ((o15.2 _ (by omega)).trans c26)
        have w3:=(s1.2 g3.next (by omega)).trans ((o15.2 _ l6).trans c36)
        rw[hA] at aR
        refine⟨_,_,_,_,_,_,_,_,rfl,rfl,_,stN_all ((o15.2 _ (by omega)).trans cb6) rfl,actTail (get_set_self _ _ _) w1 rfl w2 rfl w3 (by omega) (by omega) fun g' hy hx hs=>?_⟩
        obtain⟨st,oh⟩:=stay o15 (fun y a1 a2 a3 a4=>(hy y a2 a3).trans (s1.2 y a1)) (hx.trans s1.1)
        exact⟨_,_,_,_,_,_,_,_,_,_,_,_,_,ldN_all hs rfl,⟨i,p',n',c',zeroR,ql,qn,qc,by rw[hA]; rfl,by rw[hA]; exact br.stays aR st,zeroSet _,by rw[hA],by rw[hA]; exact dl.stays (dropSnapA_noHole R _ _) st⟩,oh⟩
       ·skip
        refine⟨fun q7=>?_,fun q7=>?_⟩
        ·have hA:actA nx rs kind kN f f2 id l=(let o:=killA nx rs id l; (o.1,o.2.1,zeroR,o.2.2.1,o.2.2.2)):=by unfold actA; rw[if_neg q0]; rw[if_neg q1]; rw[if_neg q2]; rw[if_neg q3]; rw[if_neg q4]; rw[if_neg q5]; rw[if_neg q6]; exact if_pos q7
         simp only at hA
         refine⟨_,_,_,_,ldN_all cb6 rfl,_,ld1_at ca6 rfl,_,_,_,ld1_at ca6 rfl,(kill17 kk T6 form R hn40 id (DLl.old oh6) hm).mono ?_⟩
         rintro _ g15 ⟨⟨i,p',n',c',ql,qn,qc,rfl,br,dl⟩,o15⟩
         have s1:=near_set h.next g15 (.cells [.int .u64 i,.slice p' n' c'] 36 false)
         have w1:=(s1.2 g1.next (by omega)).trans ((o15.2 _ (by omega)).trans c16)
         have w2:=(s1.2 g2.next (by omega)).trans ((o15.2 _ (by omega)).trans c26)
         have w3:=(s1.2 g3.next (by omega)).trans ((o15.2 _ l6).trans c36)
         rw[hA] at aR
         refine⟨_,_,_,_,_,_,_,_,rfl,rfl,_,stN_all ((o15.2 _ (by omega)).trans cb6) rfl,actTail (get_set_self _ _ _) w1 rfl w2 rfl w3 (by omega) (by omega) fun g' hy hx hs=>?_⟩
         obtain⟨st,oh⟩:=stay o15 (fun y a1 a2 a3 a4=>(hy y a2 a3).trans (s1.2 y a1)) (hx.trans s1.1)
         exact⟨_,_,_,_,_,_,_,_,_,_,_,_,_,ldN_all hs rfl,⟨i,p',n',c',zeroR,ql,qn,qc,by rw[hA]; rfl,by rw[hA]; exact br.stays aR st,zeroSet _,by rw[hA],by rw[hA]; exact dl.stays (killA_noHole R id l) st⟩,oh⟩
        ·skip
         have hA:actA nx rs kind kN f f2 id l=(nx,rs,zeroR,[],0):=by unfold actA; rw[if_neg q0]; rw[if_neg q1]; rw[if_neg q2]; rw[if_neg q3]; rw[if_neg q4]; rw[if_neg q5]; rw[if_neg q6]; rw[if_neg q7]
         rw[hA] at aR
         refine actTail cb6 c16 rfl c26 rfl c36 (by omega) (by omega) fun g' hy hx hs=>?_
         obtain⟨st,oh⟩:=stay (Old.refl g6) (fun y a1 a2 a3 a4=>hy y a2 a3) hx
         have bs:BookD nx rs nx p n g6:=⟨rfl,form,rs,T6,rfl⟩
         exact⟨_,_,_,_,_,_,_,_,_,_,_,_,_,ldN_all hs rfl,⟨nx,p,n,c,zeroR,_,_,_,by rw[hA]; rfl,by rw[hA]; exact bs.stays aR st,zeroSet _,by rw[hA],by rw[hA]; exact lst.stays (fun q hq=>by cases hq) st⟩,oh⟩
theorem doSpec (kl:KLaw17 K) (kk:KActs6 K) (T:BookOk h p n rs) (R:RightP nx rs) (hn40:n≤1000) (hbn:0≤nx∧nx < 281474976710655) (h1n:1≤nx) (kind kN:Int) (f f2:ByteArray) (hf:f.size≤9223372036854775806) (hf2:f2.size≤9223372036854775806) (id:Int) (hid:(Lit.int .u64 id).wf=true) {pl:Option Addr} {m cl:Nat} {l:List PtI} (DLl:DL h pl m l) (hm:m≤100000):
 Wf Try.prog K 36 [.agg #[.int .u64 nx,.slice p n c],.agg #[.int .i64 kind,.int .i64 kN,.string f,.string f2,.int .u64 id,.slice pl m cl]] h fun v h'=>ActQ BookR (actA nx rs kind kN f f2 id l) v h'∧Old h h':=by
 refine vc_aquiferlaw17_do kl.do_ _ _ _ _ _ _ _ _ _ _ _ _ h _ fun g0 e0 g1 e1 g2 e2 g3 e3 g4 e4=>?_
 have o0:=old_of_alloc e0
 have o1:=old_of_alloc e1
 have o2:=old_of_alloc e2
 have o3:=old_of_alloc e3
 have n0:=next_of_alloc e0
 have n1:=next_of_alloc e1
 have n2:=next_of_alloc e2
 have n3:=next_of_alloc e3
 obtain⟨g5,k5,n5,o5,v5⟩:=put_new e4 (vs:=setC zeroR) rfl
 refine⟨rfl,g5,k5,fun g6 e6=>?_⟩
 have o6:=old_of_alloc e6
 have n6:=next_of_alloc e6
 have o56:=o5.trans o6
 have oh6:=(((o0.trans o1).trans o2).trans o3).trans o56
 have hbn' : 0≤nx∧nx < 1000000000000000:=by omega
 have cb6:g6.get h.next=some (.cells [.int .u64 nx,.slice p n c] 36 false):=(o56.2 _ (by omega)).trans ((o3.2 _ (by omega)).trans ((o2.2 _ (by omega)).trans ((o1.2 _ (by omega)).trans (get_of_alloc e0))))
 have ca6:g6.get g0.next=some (.cells [.int .i64 kind,.int .i64 kN,.string f,.string f2,.int .u64 id,.slice pl m cl] 58 false):=(o56.2 _ (by omega)).trans ((o3.2 _ (by omega)).trans ((o2.2 _ (by omega)).trans (get_of_alloc e1)))
 have c16:g6.get g1.next=some (.cells [.int .u64 0,.slice none 0 0] 36 false):=(o56.2 _ (by omega)).trans ((o3.2 _ (by omega)).trans (get_of_alloc e2))
 have c26:g6.get g2.next=some (.cells (setC zeroR) 28 false):=(o56.2 _ (by omega)).trans (get_of_alloc e3)
 have c36:g6.get g3.next=some (.cells (setC zeroR) 28 false):=(o6.2 _ (by omega)).trans (v5 [] (fun c hc=>by cases hc)).1
 have l6:g3.next < g6.next:=by omega
 have stay:∀{g g' : AH},Old g6 g→(∀y,y≠h.next→y≠g1.next→y≠g2.next→y≠g3.next→g'.get y=g.get y)→g'.next=g.next→Stays g g'∧Old h g':=fun {g g'} o hy hx=>by
  refine⟨⟨by rw[hx]; exact Nat.le_refl _,fun y hyl=>?_⟩,⟨by rw[hx]; exact Nat.le_trans oh6.1 o.1,fun y hyl=>(hy y (by omega) (by omega) (by omega) (by omega)).trans ((o.2 y (by omega)).trans (oh6.2 y hyl))⟩⟩
  by_cases a1:y=h.next
  ·exact .inr ⟨_,_,_,by rw[a1]; exact (o.2 _ (by omega)).trans cb6,.inl (by simp),by simp⟩
  ·by_cases a2:y=g1.next
   ·exact .inr ⟨_,_,_,by rw[a2]; exact (o.2 _ (by omega)).trans c16,.inl (by simp),by simp⟩
   ·by_cases a3:y=g2.next
    ·exact .inr ⟨_,_,_,by rw[a3]; exact (o.2 _ (by omega)).trans c26,.inr (.inl rfl),by simp⟩
    ·by_cases a4:y=g3.next
     ·exact .inr ⟨_,_,_,by rw[a4]; exact (o.2 _ (by omega)).trans c36,.inr (.inl rfl),by simp⟩
     ·exact .inl (hy y a1 a2 a3 a4)
 have lst:DL g6 (some ⟨g5.next,0,none⟩) 0 []:=⟨⟨rfl,.inl rfl⟩,fun q hq=>(by cases hq),rfl,.inr ⟨_,_,rfl⟩⟩
 have T6:=T.old oh6
 have aR:=actA_right R T.1.dn h1n hbn.2 kind kN f f2 id l
 refine⟨kind,ld1_at ca6 rfl,?_⟩
 refine⟨fun q0=>?_,fun q0=>?_⟩
 ·have hA:actA nx rs kind kN f f2 id l=(let o:=createF nx rs (spl f) kN; (o.1,o.2.1,zeroR,[],o.2.2)):=by unfold actA; exact if_pos q0
  simp only at hA
  refine⟨_,_,_,_,ldN_all cb6 rfl,_,ld1_at ca6 rfl,_,ld1_at ca6 rfl,(createSpec kk.a5.a4.a3.a2.a T6 R hn40 hbn' f hf kN).mono ?_⟩
  rintro _ g15 ⟨⟨i,p',n',c',rfl,br⟩,o15⟩
  have s1:=near_set h.next g15 (.cells [.int .u64 i,.slice p' n' c'] 36 false)
  have w1:=(s1.2 g1.next (by omega)).trans ((o15.2 _ (by omega)).trans c16)
  have w2:=(s1.2 g2.next (by omega)).trans ((o15.2 _ (by omega)).trans c26)
  have w3:=(s1.2 g3.next (by omega)).trans ((o15.2 _ l6).trans c36)
  rw[hA] at aR
  refine⟨_,_,_,_,_,rfl,rfl,_,stN_all ((o15.2 _ (by omega)).trans cb6) rfl,actTail (get_set_self _ _ _) w1 rfl w2 rfl w3 (by omega) (by omega) fun g' hy hx hs=>?_⟩
  obtain⟨st,oh⟩:=stay o15 (fun y a1 a2 a3 a4=>(hy y a2 a3).trans (s1.2 y a1)) (hx.trans s1.1)
  exact⟨_,_,_,_,_,_,_,_,_,_,_,_,_,ldN_all hs rfl,⟨i,p',n',c',zeroR,_,_,_,by rw[hA]; rfl,by rw[hA]; exact br.stays aR st,zeroSet _,by rw[hA],by rw[hA]; exact (lst.old o15).stays (fun q hq=>by cases hq) st⟩,oh⟩
 ·skip
  refine⟨fun q1=>?_,fun q1=>?_⟩
  ·have hA:actA nx rs kind kN f f2 id l=(let o:=snapA nx rs (spl f) id; (o.1,o.2.1,zeroR,[],o.2.2)):=by unfold actA; rw[if_neg q0]; exact if_pos q1
   simp only at hA
   refine⟨_,_,_,_,ldN_all cb6 rfl,_,ld1_at ca6 rfl,_,ld1_at ca6 rfl,(snapASpec kk.a5.a4.a3.a2.a T6 R hn40 hbn' f hf id hid).mono ?_⟩
   rintro _ g15 ⟨⟨i,p',n',c',rfl,br⟩,o15⟩
   have s1:=near_set h.next g15 (.cells [.int .u64 i,.slice p' n' c'] 36 false)
   have w1:=(s1.2 g1.next (by omega)).trans ((o15.2 _ (by omega)).trans c16)
   have w2:=(s1.2 g2.next (by omega)).trans ((o15.2 _ (by omega)).trans c26)
   have w3:=(s1.2 g3.next (by omega)).trans ((o15.2 _ l6).trans c36)
   rw[hA] at aR
   refine⟨_,_,_,_,_,rfl,rfl,_,stN_all ((o15.2 _ (by omega)).trans cb6) rfl,actTail (get_set_self _ _ _) w1 rfl w2 rfl w3 (by omega) (by omega) fun g' hy hx hs=>?_⟩
   obtain⟨st,oh⟩:=stay o15 (fun y a1 a2 a3 a4=>(hy y a2 a3).trans (s1.2 y a1)) (hx.trans s1.1)
   exact⟨_,_,_,_,_,_,_,_,_,_,_,_,_,ldN_all hs rfl,⟨i,p',n',c',zeroR,_,_,_,by rw[hA]; rfl,by rw[hA]; exact br.stays aR st,zeroSet _,by rw[hA],by rw[hA]; exact (lst.old o15).stays (fun q hq=>by cases hq) st⟩,oh⟩
  ·skip
   refine⟨fun q2=>?_,fun q2=>?_⟩
   ·have hA:actA nx rs kind kN f f2 id l=(let o:=cloneA nx rs (spl f) (spl f2); (o.1,o.2.1,zeroR,[],o.2.2)):=by unfold actA; rw[if_neg q0]; rw[if_neg q1]; exact if_pos q2
    simp only at hA
    refine⟨_,_,_,_,ldN_all cb6 rfl,_,ld1_at ca6 rfl,_,ld1_at ca6 rfl,(cloneSpec kk.a5.a4.a3.a2.a T6 R hn40 hbn' f hf f2 hf2).mono ?_⟩
    rintro _ g15 ⟨⟨i,p',n',c',rfl,br⟩,o15⟩
    have s1:=near_set h.next g15 (.cells [.int .u64 i,.slice p' n' c'] 36 false)
    have w1:=(s1.2 g1.next (by omega)).trans ((o15.2 _ (by omega)).trans c16)
    have w2:=(s1.2 g2.next (by omega)).trans ((o15.2 _ (by omega)).trans c26)
    have w3:=(s1.2 g3.next (by omega)).trans ((o15.2 _ l6).trans c36)
    rw[hA] at aR
    refine⟨_,_,_,_,_,rfl,rfl,_,stN_all ((o15.2 _ (by omega)).trans cb6) rfl,actTail (get_set_self _ _ _) w1 rfl w2 rfl w3 (by omega) (by omega) fun g' hy hx hs=>?_⟩
    obtain⟨st,oh⟩:=stay o15 (fun y a1 a2 a3 a4=>(hy y a2 a3).trans (s1.2 y a1)) (hx.trans s1.1)
    exact⟨_,_,_,_,_,_,_,_,_,_,_,_,_,ldN_all hs rfl,⟨i,p',n',c',zeroR,_,_,_,by rw[hA]; rfl,by rw[hA]; exact br.stays aR st,zeroSet _,by rw[hA],by rw[hA]; exact (lst.old o15).stays (fun q hq=>by cases hq) st⟩,oh⟩
   ·skip
    refine⟨fun q3=>?_,fun q3=>?_⟩
    ·have hA:actA nx rs kind kN f f2 id l=(let o:=promA nx rs (spl f); (o.1,o.2.1,zeroR,[],o.2.2)):=by unfold actA; rw[if_neg q0]; rw[if_neg q1]; rw[if_neg q2]; exact if_pos q3
     simp only at hA
     refine⟨_,_,_,_,ldN_all cb6 rfl,_,ld1_at ca6 rfl,(promoteSpec kk T6 R hn40 f hf).mono ?_⟩
     rintro _ g15 ⟨⟨i,p',n',c',rfl,br⟩,o15⟩
     have s1:=near_set h.next g15 (.cells [.int .u64 i,.slice p' n' c'] 36 false)
     have w1:=(s1.2 g1.next (by omega)).trans ((o15.2 _ (by omega)).trans c16)
     have w2:=(s1.2 g2.next (by omega)).trans ((o15.2 _ (by omega)).trans c26)
     have w3:=(s1.2 g3.next (by omega)).trans ((o15.2 _ l6).trans c36)
     rw[hA] at aR
     refine⟨_,_,_,_,_,rfl,rfl,_,stN_all ((o15.2 _ (by omega)).trans cb6) rfl,actTail (get_set_self _ _ _) w1 rfl w2 rfl w3 (by omega) (by omega) fun g' hy hx hs=>?_⟩
     obtain⟨st,oh⟩:=stay o15 (fun y a1 a2 a3 a4=>(hy y a2 a3).trans (s1.2 y a1)) (hx.trans s1.1)
     exact⟨_,_,_,_,_,_,_,_,_,_,_,_,_,ldN_all hs rfl,⟨i,p',n',c',zeroR,_,_,_,by rw[hA]; rfl,by rw[hA]; exact br.stays aR st,zeroSet _,by rw[hA],by rw[hA]; exact (lst.old o15).stays (fun q hq=>by cases hq) st⟩,oh⟩
    ·skip
     refine⟨fun q4=>?_,fun q4=>?_⟩
     ·have hA:actA nx rs kind kN f f2 id l=(let o:=backA nx rs (spl f); (o.1,o.2.1,o.2.2.1,[],o.2.2.2)):=by unfold actA; rw[if_neg q0]; rw[if_neg q1]; rw[if_neg q2]; rw[if_neg q3]; exact if_pos q4
      simp only at hA
      refine⟨_,_,_,_,ldN_all cb6 rfl,_,ld1_at ca6 rfl,(backSpec kk.a5.a4.a3.a2 T6 R hn40 f hf).mono ?_⟩
      rintro _ g15 ⟨⟨i,p',n',c',s,rfl,br,oks,hcs⟩,o15⟩
      have s1:=near_set h.next g15 (.cells [.int .u64 i,.slice p' n' c'] 36 false)
      have w1:=(s1.2 g1.next (by omega)).trans ((o15.2 _ (by omega)).trans c16)
      have w2:=(s1.2 g2.next (by omega)).trans ((o15.2 _ (by omega)).trans c26)
      have w3:=(s1.2 g3.next (by omega)).trans ((o15.2 _ l6).trans c36)
      rw[hA] at aR
      have s3:=near_set g3.next (g15.set h.next (.cells [.int .u64 i,.slice p' n' c'] 36 false)) (.cells (setC s) 28 false)
      refine⟨_,_,_,_,_,_,_,_,_,_,_,_,_,_,_,_,_,_,rfl,rfl,_,stN_all ((o15.2 _ (by omega)).trans cb6) rfl,rfl,_,stN_all (vs:=setC s) w3 rfl,actTail ((s3.2 h.next (by omega)).trans (get_set_self _ _ _)) ((s3.2 g1.next (by omega)).trans w1) rfl ((s3.2 g2.next (by omega)).trans w2) rfl (get_set_self _ _ _) (by omega) (by omega) fun g' hy hx hs=>?_⟩
      obtain⟨st,oh⟩:=stay o15 (fun y a1 a2 a3 a4=>(hy y a2 a3).trans ((s3.2 y a4).trans (s1.2 y a1))) (hx.trans (s3.1.trans s1.1))
      have hsd:∀q∈s.dead,¬(q.1=0∧q.2.1=0∧q.2.2=0):=by rw[(cor_eq hcs).2.2.2.2.2.2.2.2.2]; exact backA_s R _
      exact⟨_,_,_,_,_,_,_,_,_,_,_,_,_,ldN_all hs rfl,⟨i,p',n',c',s,_,_,_,by rw[hA]; rfl,by rw[hA]; exact br.stays aR st,oks.stays hsd st,by rw[hA]; exact hcs,by rw[hA]; exact (lst.old o15).stays (fun q hq=>by cases hq) st⟩,oh⟩
     ·skip
      refine⟨fun q5=>?_,fun q5=>?_⟩
      ·have hA:actA nx rs kind kN f f2 id l=(let o:=dropVolA nx rs (spl f); (o.1,o.2.1,o.2.2.1,[],o.2.2.2)):=by unfold actA; rw[if_neg q0]; rw[if_neg q1]; rw[if_neg q2]; rw[if_neg q3]; rw[if_neg q4]; exact if_pos q5
       simp only at hA
       refine⟨_,_,_,_,ldN_all cb6 rfl,_,ld1_at ca6 rfl,(dropVolSpec kk.a5.a4.a3 T6 R hn40 f hf).mono ?_⟩
       rintro _ g15 ⟨⟨i,p',n',c',s,rfl,br,oks,hcs⟩,o15⟩
       have s1:=near_set h.next g15 (.cells [.int .u64 i,.slice p' n' c'] 36 false)
       have w1:=(s1.2 g1.next (by omega)).trans ((o15.2 _ (by omega)).trans c16)
       have w2:=(s1.2 g2.next (by omega)).trans ((o15.2 _ (by omega)).trans c26)
       have w3:=(s1.2 g3.next (by omega)).trans ((o15.2 _ l6).trans c36)
       rw[hA] at aR
       have s3:=near_set g3.next (g15.set h.next (.cells [.int .u64 i,.slice p' n' c'] 36 false)) (.cells (setC s) 28 false)
       refine⟨_,_,_,_,_,_,_,_,_,_,_,_,_,_,_,_,_,_,rfl,rfl,_,stN_all ((o15.2 _ (by omega)).trans cb6) rfl,rfl,_,stN_all (vs:=setC s) w3 rfl,actTail ((s3.2 h.next (by omega)).trans (get_set_self _ _ _)) ((s3.2 g1.next (by omega)).trans w1) rfl ((s3.2 g2.next (by omega)).trans w2) rfl (get_set_self _ _ _) (by omega) (by omega) fun g' hy hx hs=>?_⟩
       obtain⟨st,oh⟩:=stay o15 (fun y a1 a2 a3 a4=>(hy y a2 a3).trans ((s3.2 y a4).trans (s1.2 y a1))) (hx.trans (s3.1.trans s1.1))
       have hsd:∀q∈s.dead,¬(q.1=0∧q.2.1=0∧q.2.2=0):=by rw[(cor_eq hcs).2.2.2.2.2.2.2.2.2]; exact dropVolA_s R _
       exact⟨_,_,_,_,_,_,_,_,_,_,_,_,_,ldN_all hs rfl,⟨i,p',n',c',s,_,_,_,by rw[hA]; rfl,by rw[hA]; exact br.stays aR st,oks.stays hsd st,by rw[hA]; exact hcs,by rw[hA]; exact (lst.old o15).stays (fun q hq=>by cases hq) st⟩,oh⟩
      ·skip
       refine⟨fun q6=>?_,fun q6=>?_⟩
       ·have hA:actA nx rs kind kN f f2 id l=(let o:=dropSnapA nx rs (lookOf rs (spl f)) (snapOf (spl f)).isSome; (o.1,o.2.1,zeroR,o.2.2.1,o.2.2.2)):=by unfold actA; rw[if_neg q0]; rw[if_neg q1]; rw[if_neg q2]; rw[if_neg q3]; rw[if_neg q4]; rw[if_neg q5]; exact if_pos q6
        simp only at hA
        refine⟨_,_,_,_,ldN_all cb6 rfl,_,ld1_at ca6 rfl,(dropSnapSpec kk.a5.a4 T6 R hn40 f hf rfl).mono ?_⟩
        rintro _ g15 ⟨⟨i,p',n',c',ql,qn,qc,rfl,br,dl⟩,o15⟩
        have s1:=near_set h.next g15 (.cells [.int .u64 i,.slice p' n' c'] 36 false)
        have w1:=(s1.2 g1.next (by omega)).trans ((o15.2 _ (by omega)).trans c16)
        have w2:=(s1.2 g2.next (by omega)).trans ((o15.2 _ (by omega)).trans c26)
        have w3:=(s1.2 g3.next (by omega)).trans ((o15.2 _ l6).trans c36)
        rw[hA] at aR
        refine⟨_,_,_,_,_,_,_,_,rfl,rfl,_,stN_all ((o15.2 _ (by omega)).trans cb6) rfl,actTail (get_set_self _ _ _) w1 rfl w2 rfl w3 (by omega) (by omega) fun g' hy hx hs=>?_⟩
        obtain⟨st,oh⟩:=stay o15 (fun y a1 a2 a3 a4=>(hy y a2 a3).trans (s1.2 y a1)) (hx.trans s1.1)
        exact⟨_,_,_,_,_,_,_,_,_,_,_,_,_,ldN_all hs rfl,⟨i,p',n',c',zeroR,ql,qn,qc,by rw[hA]; rfl,by rw[hA]; exact br.stays aR st,zeroSet _,by rw[hA],by rw[hA]; exact dl.stays (dropSnapA_noHole R _ _) st⟩,oh⟩
       ·skip
        refine⟨fun q7=>?_,fun q7=>?_⟩
        ·have hA:actA nx rs kind kN f f2 id l=(let o:=killA nx rs id l; (o.1,o.2.1,zeroR,o.2.2.1,o.2.2.2)):=by unfold actA; rw[if_neg q0]; rw[if_neg q1]; rw[if_neg q2]; rw[if_neg q3]; rw[if_neg q4]; rw[if_neg q5]; rw[if_neg q6]; exact if_pos q7
         simp only at hA
         refine fun g385 e385=>?_
         have o385:=old_of_alloc e385
         obtain⟨p389,c391,g392,k392,G392,o392,-,-⟩:=(Grow.lit (n:=0) (sz:=3) e385 rfl (Nat.le_refl _)).append ePtrF (by have:=o385.1; omega) (x:=.slice pl m cl) (m:=m) rfl (((DLl.old oh6).old o385).shows.firstC DLl.form) DLl.shows.1 (by have:roomMax=140737488355328:=rfl; omega) (by omega) ⟨_,ePtrF.1⟩
         rw[Nat.zero_add] at k392 G392
         rw[List.nil_append] at G392
         have o6392:Old g6 g392:=⟨Nat.le_trans o385.1 o392.1,fun y hy=>(o392.2 y hy).trans (o385.2 y hy)⟩
         have ca385:=(o385.2 g0.next (by omega)).trans ca6
         have cb385:=(o385.2 h.next (by omega)).trans cb6
         have ca392:=(o6392.2 g0.next (by omega)).trans ca6
         have cb392:=(o6392.2 h.next (by omega)).trans cb6
         refine⟨_,_,_,ld1_at ca385 rfl,p389,m,c391,g392,k392,_,_,_,_,ldN_all cb392 rfl,_,ld1_at ca392 rfl,(killSpec kk.a5 (T6.old o6392) R hn40 id (GrowD G392 DLl.wf) hm).mono ?_⟩
         rintro _ g15 ⟨⟨i,p',n',c',ql,qn,qc,rfl,br,dl⟩,o15⟩
         have o15:=o6392.trans o15
         have s1:=near_set h.next g15 (.cells [.int .u64 i,.slice p' n' c'] 36 false)
         have w1:=(s1.2 g1.next (by omega)).trans ((o15.2 _ (by omega)).trans c16)
         have w2:=(s1.2 g2.next (by omega)).trans ((o15.2 _ (by omega)).trans c26)
         have w3:=(s1.2 g3.next (by omega)).trans ((o15.2 _ l6).trans c36)
         rw[hA] at aR
         refine⟨_,_,_,_,_,_,_,_,rfl,rfl,_,stN_all ((o15.2 _ (by omega)).trans cb6) rfl,ldN_all cb385 rfl,ldN_all cb392 rfl,ld1_at ca385 rfl,ld1_at ca392 rfl,actTail (get_set_self _ _ _) w1 rfl w2 rfl w3 (by omega) (by omega) fun g' hy hx hs=>?_⟩
         obtain⟨st,oh⟩:=stay o15 (fun y a1 a2 a3 a4=>(hy y a2 a3).trans (s1.2 y a1)) (hx.trans s1.1)
         exact⟨_,_,_,_,_,_,_,_,_,_,_,_,_,ldN_all hs rfl,⟨i,p',n',c',zeroR,ql,qn,qc,by rw[hA]; rfl,by rw[hA]; exact br.stays aR st,zeroSet _,by rw[hA],by rw[hA]; exact dl.stays (killA_noHole R id l) st⟩,oh⟩
        ·skip
         have hA:actA nx rs kind kN f f2 id l=(nx,rs,zeroR,[],0):=by unfold actA; rw[if_neg q0]; rw[if_neg q1]; rw[if_neg q2]; rw[if_neg q3]; rw[if_neg q4]; rw[if_neg q5]; rw[if_neg q6]; rw[if_neg q7]
         rw[hA] at aR
         refine actTail cb6 c16 rfl c26 rfl c36 (by omega) (by omega) fun g' hy hx hs=>?_
         obtain⟨st,oh⟩:=stay (Old.refl g6) (fun y a1 a2 a3 a4=>hy y a2 a3) hx
         have bs:BookR nx rs nx p n g6:=⟨rfl,rs,T6,rfl⟩
         exact⟨_,_,_,_,_,_,_,_,_,_,_,_,_,ldN_all hs rfl,⟨nx,p,n,c,zeroR,_,_,_,by rw[hA]; rfl,by rw[hA]; exact bs.stays aR st,zeroSet _,by rw[hA],by rw[hA]; exact lst.stays (fun q hq=>by cases hq) st⟩,oh⟩
end
end Go.Am
