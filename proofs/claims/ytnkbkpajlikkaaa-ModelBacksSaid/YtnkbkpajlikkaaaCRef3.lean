/-
  THE DOCUMENT'S ANSWERS of layer 16: of records in a row.
-/
import Derived.Test.YtnkbkpajlikkaaaCRef2
set_option linter.unusedVariables false
set_option linter.unusedSimpArgs false
set_option maxRecDepth 100000
namespace Go.Am
open Go.Proofs
theorem Grow.keep {lim:Nat} {h h' : AH} {elem:TypeId} {sz:Nat} {p:Option Addr} {n c:Nat} {cs:List Value} (g:Grow lim h elem sz p n c cs) (hn:h.next≤h'.next) (k:∀a,p=some a→h'.get a.block=h.get a.block):Grow lim h' elem sz p n c cs:=by
 refine⟨g.1,?_⟩
 rcases g.2 with hp | ⟨b,hp,hl,hb,hg,hc⟩
 ·exact .inl hp
 ·exact .inr ⟨b,hp,hl,Nat.lt_of_lt_of_le hb hn,by rw[k _ hp,hg],hc⟩
def ownL (rs:List SetR) (id:Int):List Int:=match plcN rs id with
 | none=>[]
 | some i=>match rs[i]? with
   | none=>[]
   | some r=>if r.snap=true then (rs.filter fun x=>decide (x.own=r.own) && decide (x.prev=id)).map (·.id) else []
structure KRef16 (K:Xs):Prop where
 r15:KRef15 K
section
variable {K:Xs} {h:AH} {p:Option Addr} {n c:Nat} {rs:List SetR}
def FindQ (rs:List SetR) (id:Int) (v:Value):Prop:=(∃i r,plcN rs id=some i∧rs[i]?= some r∧v=.tuple #[.agg (setC r).toArray,.bool true])∨(plcN rs id=none∧v=.tuple #[.agg (setC zeroR).toArray,.bool false])
def hdI:List Int→Int
 | []=>0
 | a :: _=>a
theorem hdI_get {l:List Int} (hne:0 < l.length):l[0]=hdI l:=by
 cases l with
 | nil=>simp at hne
 | cons a l=>rfl
theorem nextR_own (rs:List SetR) (id:Int):nextR rs id=hdI (ownL rs id):=by
 unfold nextR ownL
 cases plcN rs id with
 | none=>rfl
 | some i=>
   simp only
   cases rs[i]? with
   | none=>rfl
   | some r=>
     simp only
     cases hs:r.snap with
     | false=>rfl
     | true=>
       simp only[if_true]
       have h1:(rs.filter fun x=>decide (x.own=r.own) && decide (x.prev=id))=((hang id 0 rs).filter fun q=>decide (q.2.own=r.own)).map (·.2):=by
        rw[←List.filter_filter,←hang_snd id rs 0,List.filter_map]
        rfl
       rw[h1]
       have h2:(hang id 0 rs).find? (fun q=>decide (q.2.own=r.own))=((hang id 0 rs).filter fun q=>decide (q.2.own=r.own)).head?:=List.head?_filter.symm
       rw[h2]
       cases (hang id 0 rs).filter fun q=>decide (q.2.own=r.own) with
       | nil=>rfl
       | cons q l=>rfl
def backR (rs:List SetR) (id:Int):List Int×Int:=match plcN rs id with
 | none=>([],0)
 | some i=>match rs[i]? with
   | none=>([],0)
   | some r=>if r.snap=true then ([],0) else wayW rs id rs.length r.prev []
end
end Go.Am
