/-
  A FAMILY'S RECORDS: copies; found by their IDs; read as arguments; what a family's records are like.
-/
import Derived.Test.YtkapnilnhoiooaaGreatCFamT
set_option linter.unusedVariables false
set_option linter.unusedSimpArgs false
set_option maxRecDepth 100000
namespace Go.Am
open Go.Proofs
theorem zam.incr {nx:Int} {rs:List zaj} (R:zam nx rs):∀(d i:Nat) (a b:zaj),rs[i]?= some a→rs[i+d+1]?= some b→a.id < b.id
 | 0,i,a,b,ha,hb=>(R.2.2.1 (i+1) b hb).2.2 i a rfl ha
 | d+1,i,a,b,ha,hb=>by
   have hl:=(List.getElem?_eq_some_iff.1 hb).1
   have hm:rs[i+d+1]?= some (rs[i+d+1]'(by omega)):=List.getElem?_eq_getElem (by omega)
   have h1:=zam.incr R d i a _ ha hm
   have h2:=(R.2.2.1 (i+d+1+1) b hb).2.2 (i+d+1) _ rfl hm
   omega
theorem zam.uniq {nx:Int} {rs:List zaj} (R:zam nx rs) {i:Nat} {r:zaj} (h:rs[i]?= some r):plcN rs r.id=some i:=by
 refine zdO h rfl fun j x hj hx e=>?_
 have:=R.incr (i - j - 1) j x r hx (by rw[show j+(i - j - 1)+1=i by omega]; exact h)
 omega
theorem zam.zero {nx:Int} {rs:List zaj} (R:zam nx rs):plcN rs 0=none:=by
 refine zeX fun r hr e=>?_
 obtain⟨j,hj⟩:=List.mem_iff_getElem?.1 hr
 have:=(R.2.2.1 j r hj).1.1
 omega
def zaq:zaj:=⟨0,ByteArray.mk #[],false,0,0,0,0,(0,0,0),none,0,0,[]⟩
theorem zev:zcZ Tryz.prog 79 78 3 24:=zc0 (by kernel_rfl)
section
variable {K:Xs} {h:AH} {p:Option Addr} {n c:Nat} {rs:List zaj}
theorem zfj (hk:K 56=none) {r:zaj} (ok:zbC h r):Wf Tryz.prog K 56 [.agg (setC r).toArray] h fun v h'=>∃p' c',v=.agg (setC { r with dp:=p',dc:=c' }).toArray∧zbC h' { r with dp:=p',dc:=c' }∧zaY h.next h' 78 3 p' r.dn c' (ptI r.dead)∧Old h h':=by
 refine zkU hk _ _ _ _ _ _ _ _ _ _ _ _ _ h _ fun g0 e0 g1 e1=>?_
 have o0:=zab e0
 have n0:=zaa e0
 have o1:=zab e1
 have n1:=zaa e1
 have c0:g1.get h.next=some (.cells (setC r) _ false):=(o1.2 _ (by omega)).trans (zaf e0)
 have c1:g1.get g0.next=some (.cells (setC zaq) _ false):=zaf e1
 have oo:=o0.trans o1
 have sh:=ok.shows.old oo
 have hroom:=ok.room
 obtain⟨p',c',g8,k8,G8,hob, -, -⟩:=(zaY.nil g1.next g1 78 3).append zev (Nat.le_refl _) (x:=.slice r.dp r.dn r.dc) (m:=r.dn) rfl (sh.firstC ok.form) sh.1 (by simp only[reachBytes,zaU] at *; omega) (by simp only[reachBytes] at *; omega) ⟨_,zev.1⟩
 rw[Nat.zero_add] at k8 G8
 rw[List.nil_append] at G8
 have o8:Old g1 g8:=hob
 have c8:=(o8.2 _ (by omega)).trans c0
 have d8:=(o8.2 _ (by omega)).trans c1
 have nr9:=zak h.next g8 (.cells (setC { r with dp:=p',dc:=c' }) 81 false)
 have c9:(g8.set h.next (.cells (setC { r with dp:=p',dc:=c' }) 81 false)).get h.next=_:=zad _ _ _
 have l8:=o8.1
 have G9:=G8.near nr9 (by omega) (Nat.le_refl _)
 have d9:=(nr9.2 g0.next (by omega)).trans d8
 have o9:Old h (g8.set h.next (.cells (setC { r with dp:=p',dc:=c' }) 81 false)):=⟨by rw[nr9.1]; have:=oo.1; omega,fun c hc=>by rw[nr9.2 c (by omega),o8.2 c (by have:=oo.1; omega),oo.2 c hc]⟩
 refine⟨_,_,_,zae c0 rfl,p',_,c',g8,k8,g8.set h.next (.cells (setC { r with dp:=p',dc:=c' }) 81 false),zbi c8 (by simp[setC]),?_⟩
 have nr23:=zak g0.next (g8.set h.next (.cells (setC { r with dp:=p',dc:=c' }) 81 false)) (.cells (setC { r with dp:=p',dc:=c' }) 81 false)
 refine⟨_,_,_,_,_,_,_,_,_,_,_,_,_,zah c9 rfl,rfl,(g8.set h.next (.cells (setC { r with dp:=p',dc:=c' }) 81 false)).set g0.next (.cells (setC { r with dp:=p',dc:=c' }) 81 false),zat d9 rfl,_,_,_,_,_,_,_,_,_,_,_,_,_,zah (zad _ _ _) rfl,p',c',rfl,?_,?_,?_⟩
 ·have G23:=(G9.near nr23 (by omega) (Nat.le_refl _))
  exact { id:=ok.id,own:=ok.own,prev:=ok.prev,stamp:=ok.stamp,root:=ok.root,dead:=ok.dead,form:=(by
   rcases G23.2 with z | ⟨b,hp, -⟩
   ·exact .inl z.1
   ·exact .inr ⟨b,0,hp⟩),room:=ok.room,len:=ok.len,shows:=G23.shows }
 ·exact (G9.near nr23 (by omega) (Nat.le_refl _)).weak (by omega)
 ·exact⟨by rw[nr23.1]; exact o9.1,fun c hc=>by rw[nr23.2 c (by omega),o9.2 c hc]⟩
theorem zk6 (hk:K 50=none) (hp:K 80=none) (hc:K 56=none) (T:zbL h p n rs) (id:Int):
 Wf Tryz.prog K 50 [.slice p n c,.int .u64 id] h fun v h'=>((∃i r p' c',plcN rs id=some i∧rs[i]?= some r∧v=.tuple #[.agg (setC { r with dp:=p',dc:=c' }).toArray,.bool true]∧zbC h' { r with dp:=p',dc:=c' })∨(plcN rs id=none∧v=.tuple #[.agg (setC zaq).toArray,.bool false]))∧Old h h':=by
 have hn:=T.1
 refine zjD hk _ _ _ _ h _ fun g0 e0=>(zcb hp (T.old (zab e0)) id).mono ?_
 have o0:=zab e0
 have n0:=zaa e0
 have c0:g0.get h.next=some (.cells (setC zaq) _ false):=zaf e0
 rintro _ _ ⟨rfl,rfl⟩
 refine⟨_,rfl,fun z=>?_,fun z=>?_⟩
 ·have nr:=zak h.next g0 (.cells (setC zaq) 81 false)
  refine⟨rfl,g0.set h.next (.cells (setC zaq) 81 false),zat c0 rfl,_,_,_,_,_,_,_,_,_,_,_,_,_,zah (zad _ _ _) rfl,.inr ⟨?_,rfl⟩,⟨by rw[nr.1]; exact o0.1,fun c hc=>by rw[nr.2 c (by omega),o0.2 c hc]⟩⟩
  cases e:plcN rs id with
  | none=>rfl
  | some i=>rw[zaS e] at z; omega
 ·cases e:plcN rs id with
  | none=>rw[zcc e] at z; omega
  | some i=>
    obtain⟨hi,hid⟩:=zbv e
    rw[zaS e] at z ⊢
    obtain⟨b,off,rfl,hi',hl,h1,ok⟩:=(T.old o0).at (i:=i) (by omega)
    have hri:=List.getElem?_eq_getElem hi'
    refine zag ⟨by omega,by omega,_,_,_,_,_,_,_,_,_,_,_,_,_,by rw[Int.toNat_natCast]; exact hl,(zfj hc ok).mono ?_⟩
    rintro _ g34 ⟨p',c',rfl,ok',G34,o34⟩
    have c34:=(o34.2 h.next (by omega)).trans c0
    have nr:=zak h.next g34 (.cells (setC { rs[i] with dp:=p',dc:=c' }) 81 false)
    refine⟨_,_,_,_,_,_,_,_,_,_,_,_,_,rfl,rfl,g34.set h.next (.cells (setC { rs[i] with dp:=p',dc:=c' }) 81 false),zat c34 rfl,_,_,_,_,_,_,_,_,_,_,_,_,_,zah (zad _ _ _) rfl,.inl ⟨i,_,p',c',rfl,hri,rfl,{ ok' with shows:=(G34.near nr (by omega) (Nat.le_refl _)).shows }⟩,⟨by rw[nr.1]; have:=o34.1; omega,fun c hc=>by rw[nr.2 c (by omega),o34.2 c (by omega),o0.2 c hc]⟩⟩
end
end Go.Am
