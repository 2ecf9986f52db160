/- The plain law of a run: what the sides and the messages under way satisfy. -/
import Derived.Test.YteiolnofaebknaaMd
set_option linter.unusedSimpArgs false
set_option linter.unusedVariables false
set_option maxRecDepth 20000
set_option maxHeartbeats 2000000
namespace Go.Ab
open Go.Proofs
def GSc (a b se n h hn:Int):Prop:=0≤se∧se≤2∧0≤n∧0≤h∧h≤2∧0≤hn∧(n=0→se=0)∧(hn=0→h=0)∧(¬ a<b→se≠0→se≠h)
def MSG (a b:Int) (c:CD):Prop:=c.1=b∧c.2.1=a∧0≤c.2.2.1∧c.2.2.1≤2∧1≤c.2.2.2∧c.2.2.2≤1048575
structure HD (p:Prop):Prop where
 h:p
def pc (p:PT):CD:=p.2.2
structure CHN (a b se n h hn:Int) (z:List PT):Prop where
 msg:∀ p∈z,MSG b a (pc p)∧(pc p).2.2.2≤n∧((pc p).2.2.2=n→(pc p).2.2.1=se)
 le:hn≤n
 eq:hn=n→h=se
structure INV (a b T:Int) (c:CY):Prop where
 ex:∃ se n h hn se' n' h' hn',c.1=(a,b,se,n,h,hn)∧c.2.1=(b,a,se',n',h',hn')∧GSc a b se n h hn∧GSc b a se' n' h' hn'∧CHN a b se n h' hn' c.2.2.1.2∧CHN b a se' n' h hn c.2.2.2.2 ∧
  n+c.2.2.2.2.length≤T+c.2.2.2.1∧n'+c.2.2.1.2.length≤T+c.2.2.1.1
 ua:0≤c.2.2.1.1∧c.2.2.1.1≤T
 ub:0≤c.2.2.2.1∧c.2.2.2.1≤T
end Go.Ab
