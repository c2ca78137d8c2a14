/- Calls of chapter 16's known that are kept: what they look at, what they answer and what they leave. (Printed by wip/ax/dev/Try8.lean.) -/
import Derived.Test.YtmfdkldjinlmnaaGreatDoorSeatEnv16
set_option linter.unusedSimpArgs false
set_option linter.unusedVariables false
namespace Go.Proofs
open Go Go.Ax
noncomputable section
/-- (*cistern/tree.Tree).Put -/
def kc9 : MS where
  args := [.pointer (some ⟨1491, 0, none⟩), .string (nbS 6 2199023282542), .string (nbS 9 18446744073709551617)]
  nx := 2500
  pre := [(1244, .map [(.int .i64 (.ofNat 1), .string (nbS 27 822752279085043569021583718212089851110118394940076989461430785)), (.int .i64 (.ofNat 0), .string (nbS 7 33554772))]),
    (1245, .cells [.pointer (some ⟨1004, 0, none⟩), .pointer (some ⟨1276, 0, none⟩), .int .i64 (.ofNat 204), .int .i64 (.ofNat 200), .int .i64 (.ofNat 2), .int .i64 (.ofNat 1), .map (some 1243), .map (some 1244), .int .i64 (.ofNat 0)] 9 0),
    (1491, .cells [.pointer (some ⟨1245, 0, none⟩), .pointer (some ⟨1545, 0, none⟩), .int .i64 (.ofNat 1), .int .i64 (.ofNat 2), .int .i64 (.ofNat 1)] 5 0),
    (1541, .cells [.int .u64 (.ofNat 3), .int .u64 (.ofNat 0), .int .u64 (.ofNat 0), .int .u64 (.ofNat 0)] 4 0),
    (1543, .cells [.int .u64 (.ofNat 0), .int .u64 (.ofNat 0), .int .u64 (.ofNat 0), .int .u64 (.ofNat 0)] 4 0),
    (1545, .cells [.int .i64 (.ofNat 200), .slice (some ⟨1541, 0, none⟩) 4 9, .slice (some ⟨1543, 0, none⟩) 4 9, .int .i64 (.ofNat 0)] 4 0)]
  ans := .int .i64 (.ofNat 0)
  nx' := 2847
  post := [(1244, .map [(.int .i64 (.ofNat 1), .string (nbS 44 71671831786663721111377509831087004416293203831747713468472345906562683097122611289927189828208186229505)), (.int .i64 (.ofNat 0), .string (nbS 7 50331988))]),
    (1245, .cells [.pointer (some ⟨1004, 0, none⟩), .pointer (some ⟨1276, 0, none⟩), .int .i64 (.ofNat 204), .int .i64 (.ofNat 200), .int .i64 (.ofNat 2), .int .i64 (.ofNat 1), .map (some 1243), .map (some 1244), .int .i64 (.ofNat 0)] 9 0),
    (1491, .cells [.pointer (some ⟨1245, 0, none⟩), .pointer (some ⟨1545, 0, none⟩), .int .i64 (.ofNat 1), .int .i64 (.ofNat 3), .int .i64 (.ofNat 1)] 5 0),
    (1541, .cells [.int .u64 (.ofNat 3), .int .u64 (.ofNat 0), .int .u64 (.ofNat 0), .int .u64 (.ofNat 0)] 4 0),
    (1543, .cells [.int .u64 (.ofNat 0), .int .u64 (.ofNat 0), .int .u64 (.ofNat 0), .int .u64 (.ofNat 0)] 4 0),
    (1545, .cells [.int .i64 (.ofNat 200), .slice (some ⟨1541, 0, none⟩) 4 9, .slice (some ⟨1543, 0, none⟩) 4 9, .int .i64 (.ofNat 0)] 4 0)]
/-- (*cistern/tree.Tree).Put -/
def kc10 : MS where
  args := [.pointer (some ⟨1491, 0, none⟩), .string (nbS 2 28270), .string (nbS 4 50331648)]
  nx := 2857
  pre := [(1244, .map [(.int .i64 (.ofNat 1), .string (nbS 44 71671831786663721111377509831087004416293203831747713468472345906562683097122611289927189828208186229505)), (.int .i64 (.ofNat 0), .string (nbS 7 50331988))]),
    (1245, .cells [.pointer (some ⟨1004, 0, none⟩), .pointer (some ⟨1276, 0, none⟩), .int .i64 (.ofNat 204), .int .i64 (.ofNat 200), .int .i64 (.ofNat 2), .int .i64 (.ofNat 1), .map (some 1243), .map (some 1244), .int .i64 (.ofNat 0)] 9 0),
    (1491, .cells [.pointer (some ⟨1245, 0, none⟩), .pointer (some ⟨1545, 0, none⟩), .int .i64 (.ofNat 1), .int .i64 (.ofNat 3), .int .i64 (.ofNat 1)] 5 0),
    (1541, .cells [.int .u64 (.ofNat 3), .int .u64 (.ofNat 0), .int .u64 (.ofNat 0), .int .u64 (.ofNat 0)] 4 0),
    (1543, .cells [.int .u64 (.ofNat 0), .int .u64 (.ofNat 0), .int .u64 (.ofNat 0), .int .u64 (.ofNat 0)] 4 0),
    (1545, .cells [.int .i64 (.ofNat 200), .slice (some ⟨1541, 0, none⟩) 4 9, .slice (some ⟨1543, 0, none⟩) 4 9, .int .i64 (.ofNat 0)] 4 0)]
  ans := .int .i64 (.ofNat 0)
  nx' := 3247
  post := [(1244, .map [(.int .i64 (.ofNat 1), .string (nbS 44 107507747661508588480296586320182112866239531787502106026872171521983353036005186416021229720553900081921)), (.int .i64 (.ofNat 0), .string (nbS 7 50331988))]),
    (1245, .cells [.pointer (some ⟨1004, 0, none⟩), .pointer (some ⟨1276, 0, none⟩), .int .i64 (.ofNat 204), .int .i64 (.ofNat 200), .int .i64 (.ofNat 2), .int .i64 (.ofNat 1), .map (some 1243), .map (some 1244), .int .i64 (.ofNat 0)] 9 0),
    (1491, .cells [.pointer (some ⟨1245, 0, none⟩), .pointer (some ⟨1545, 0, none⟩), .int .i64 (.ofNat 1), .int .i64 (.ofNat 3), .int .i64 (.ofNat 1)] 5 0),
    (1541, .cells [.int .u64 (.ofNat 3), .int .u64 (.ofNat 0), .int .u64 (.ofNat 0), .int .u64 (.ofNat 0)] 4 0),
    (1543, .cells [.int .u64 (.ofNat 0), .int .u64 (.ofNat 0), .int .u64 (.ofNat 0), .int .u64 (.ofNat 0)] 4 0),
    (1545, .cells [.int .i64 (.ofNat 200), .slice (some ⟨1541, 0, none⟩) 4 9, .slice (some ⟨1543, 0, none⟩) 4 9, .int .i64 (.ofNat 0)] 4 0)]
/-- (*cistern/tree.Tree).Put -/
def kc11 : MS where
  args := [.pointer (some ⟨1491, 0, none⟩), .string (nbS 7 27304172252587374), .string (nbS 4 33554432)]
  nx := 3260
  pre := [(1244, .map [(.int .i64 (.ofNat 1), .string (nbS 44 107507747661508588480296586320182112866239531787502106026872171521983353036005186416021229720553900081921)), (.int .i64 (.ofNat 0), .string (nbS 7 50331988))]),
    (1245, .cells [.pointer (some ⟨1004, 0, none⟩), .pointer (some ⟨1276, 0, none⟩), .int .i64 (.ofNat 204), .int .i64 (.ofNat 200), .int .i64 (.ofNat 2), .int .i64 (.ofNat 1), .map (some 1243), .map (some 1244), .int .i64 (.ofNat 0)] 9 0),
    (1491, .cells [.pointer (some ⟨1245, 0, none⟩), .pointer (some ⟨1545, 0, none⟩), .int .i64 (.ofNat 1), .int .i64 (.ofNat 3), .int .i64 (.ofNat 1)] 5 0),
    (1541, .cells [.int .u64 (.ofNat 3), .int .u64 (.ofNat 0), .int .u64 (.ofNat 0), .int .u64 (.ofNat 0)] 4 0),
    (1543, .cells [.int .u64 (.ofNat 0), .int .u64 (.ofNat 0), .int .u64 (.ofNat 0), .int .u64 (.ofNat 0)] 4 0),
    (1545, .cells [.int .i64 (.ofNat 200), .slice (some ⟨1541, 0, none⟩) 4 9, .slice (some ⟨1543, 0, none⟩) 4 9, .int .i64 (.ofNat 0)] 4 0)]
  ans := .int .i64 (.ofNat 0)
  nx' := 3706
  post := [(1244, .map [(.int .i64 (.ofNat 1), .string (nbS 57 2180516173636742207955932073570715549380365489422519788309305207554470003776533291922287239976253489028239853523955946858113973052965889)), (.int .i64 (.ofNat 0), .string (nbS 7 67109204))]),
    (1245, .cells [.pointer (some ⟨1004, 0, none⟩), .pointer (some ⟨1276, 0, none⟩), .int .i64 (.ofNat 204), .int .i64 (.ofNat 200), .int .i64 (.ofNat 2), .int .i64 (.ofNat 1), .map (some 1243), .map (some 1244), .int .i64 (.ofNat 0)] 9 0),
    (1491, .cells [.pointer (some ⟨1245, 0, none⟩), .pointer (some ⟨1545, 0, none⟩), .int .i64 (.ofNat 1), .int .i64 (.ofNat 4), .int .i64 (.ofNat 1)] 5 0),
    (1541, .cells [.int .u64 (.ofNat 3), .int .u64 (.ofNat 0), .int .u64 (.ofNat 0), .int .u64 (.ofNat 0)] 4 0),
    (1543, .cells [.int .u64 (.ofNat 0), .int .u64 (.ofNat 0), .int .u64 (.ofNat 0), .int .u64 (.ofNat 0)] 4 0),
    (1545, .cells [.int .i64 (.ofNat 200), .slice (some ⟨1541, 0, none⟩) 4 9, .slice (some ⟨1543, 0, none⟩) 4 9, .int .i64 (.ofNat 0)] 4 0)]
/-- (*cistern/tree.Tree).Put -/
def kc16 : MS where
  args := [.pointer (some ⟨1491, 0, none⟩), .string (nbS 6 3298534910318), .string (nbS 9 18446744073709551617)]
  nx := 4320
  pre := [(1244, .map [(.int .i64 (.ofNat 1), .string (nbS 57 2180516173636742207955932073570715549380365489422519788309305207554470003776533291922287239976253489028239853523955946858113973052965889)), (.int .i64 (.ofNat 0), .string (nbS 7 67109204))]),
    (1245, .cells [.pointer (some ⟨1004, 0, none⟩), .pointer (some ⟨1276, 0, none⟩), .int .i64 (.ofNat 204), .int .i64 (.ofNat 200), .int .i64 (.ofNat 2), .int .i64 (.ofNat 1), .map (some 1243), .map (some 1244), .int .i64 (.ofNat 0)] 9 0),
    (1491, .cells [.pointer (some ⟨1245, 0, none⟩), .pointer (some ⟨1545, 0, none⟩), .int .i64 (.ofNat 1), .int .i64 (.ofNat 4), .int .i64 (.ofNat 1)] 5 0),
    (1541, .cells [.int .u64 (.ofNat 3), .int .u64 (.ofNat 0), .int .u64 (.ofNat 0), .int .u64 (.ofNat 0)] 4 0),
    (1543, .cells [.int .u64 (.ofNat 0), .int .u64 (.ofNat 0), .int .u64 (.ofNat 0), .int .u64 (.ofNat 0)] 4 0),
    (1545, .cells [.int .i64 (.ofNat 200), .slice (some ⟨1541, 0, none⟩) 4 9, .slice (some ⟨1543, 0, none⟩) 4 9, .int .i64 (.ofNat 0)] 4 0)]
  ans := .int .i64 (.ofNat 0)
  nx' := 4865
  post := [(1244, .map [(.int .i64 (.ofNat 1), .string (nbS 74 189949748396671661455709927682467420348586888631776970089460812303534435851685640599938055513283340080900793779644130988306582856125512168240159123856818787528210118707209766145)), (.int .i64 (.ofNat 0), .string (nbS 7 83886420))]),
    (1245, .cells [.pointer (some ⟨1004, 0, none⟩), .pointer (some ⟨1276, 0, none⟩), .int .i64 (.ofNat 204), .int .i64 (.ofNat 200), .int .i64 (.ofNat 2), .int .i64 (.ofNat 1), .map (some 1243), .map (some 1244), .int .i64 (.ofNat 0)] 9 0),
    (1491, .cells [.pointer (some ⟨1245, 0, none⟩), .pointer (some ⟨1545, 0, none⟩), .int .i64 (.ofNat 1), .int .i64 (.ofNat 5), .int .i64 (.ofNat 1)] 5 0),
    (1541, .cells [.int .u64 (.ofNat 3), .int .u64 (.ofNat 0), .int .u64 (.ofNat 0), .int .u64 (.ofNat 0)] 4 0),
    (1543, .cells [.int .u64 (.ofNat 0), .int .u64 (.ofNat 0), .int .u64 (.ofNat 0), .int .u64 (.ofNat 0)] 4 0),
    (1545, .cells [.int .i64 (.ofNat 200), .slice (some ⟨1541, 0, none⟩) 4 9, .slice (some ⟨1543, 0, none⟩) 4 9, .int .i64 (.ofNat 0)] 4 0)]
/-- (*cistern/tree.Tree).Put -/
def kc17 : MS where
  args := [.pointer (some ⟨1491, 0, none⟩), .string (nbS 2 28270), .string (nbS 4 67108864)]
  nx := 4875
  pre := [(1244, .map [(.int .i64 (.ofNat 1), .string (nbS 74 189949748396671661455709927682467420348586888631776970089460812303534435851685640599938055513283340080900793779644130988306582856125512168240159123856818787528210118707209766145)), (.int .i64 (.ofNat 0), .string (nbS 7 83886420))]),
    (1245, .cells [.pointer (some ⟨1004, 0, none⟩), .pointer (some ⟨1276, 0, none⟩), .int .i64 (.ofNat 204), .int .i64 (.ofNat 200), .int .i64 (.ofNat 2), .int .i64 (.ofNat 1), .map (some 1243), .map (some 1244), .int .i64 (.ofNat 0)] 9 0),
    (1491, .cells [.pointer (some ⟨1245, 0, none⟩), .pointer (some ⟨1545, 0, none⟩), .int .i64 (.ofNat 1), .int .i64 (.ofNat 5), .int .i64 (.ofNat 1)] 5 0),
    (1541, .cells [.int .u64 (.ofNat 3), .int .u64 (.ofNat 0), .int .u64 (.ofNat 0), .int .u64 (.ofNat 0)] 4 0),
    (1543, .cells [.int .u64 (.ofNat 0), .int .u64 (.ofNat 0), .int .u64 (.ofNat 0), .int .u64 (.ofNat 0)] 4 0),
    (1545, .cells [.int .i64 (.ofNat 200), .slice (some ⟨1541, 0, none⟩) 4 9, .slice (some ⟨1543, 0, none⟩) 4 9, .int .i64 (.ofNat 0)] 4 0)]
  ans := .int .i64 (.ofNat 0)
  nx' := 5464
  post := [(1244, .map [(.int .i64 (.ofNat 1), .string (nbS 74 253266331173786422175198573063497100997580514001687201107460954663316125478957798595539054184961559598237797664704262659180532304908040477991850939562903438514861452377276744961)), (.int .i64 (.ofNat 0), .string (nbS 7 83886420))]),
    (1245, .cells [.pointer (some ⟨1004, 0, none⟩), .pointer (some ⟨1276, 0, none⟩), .int .i64 (.ofNat 204), .int .i64 (.ofNat 200), .int .i64 (.ofNat 2), .int .i64 (.ofNat 1), .map (some 1243), .map (some 1244), .int .i64 (.ofNat 0)] 9 0),
    (1491, .cells [.pointer (some ⟨1245, 0, none⟩), .pointer (some ⟨1545, 0, none⟩), .int .i64 (.ofNat 1), .int .i64 (.ofNat 5), .int .i64 (.ofNat 1)] 5 0),
    (1541, .cells [.int .u64 (.ofNat 3), .int .u64 (.ofNat 0), .int .u64 (.ofNat 0), .int .u64 (.ofNat 0)] 4 0),
    (1543, .cells [.int .u64 (.ofNat 0), .int .u64 (.ofNat 0), .int .u64 (.ofNat 0), .int .u64 (.ofNat 0)] 4 0),
    (1545, .cells [.int .i64 (.ofNat 200), .slice (some ⟨1541, 0, none⟩) 4 9, .slice (some ⟨1543, 0, none⟩) 4 9, .int .i64 (.ofNat 0)] 4 0)]
/-- (*cistern/tree.Tree).Put -/
def kc18 : MS where
  args := [.pointer (some ⟨1491, 0, none⟩), .string (nbS 7 27585647229298030), .string (nbS 4 50331648)]
  nx := 5477
  pre := [(1244, .map [(.int .i64 (.ofNat 1), .string (nbS 74 253266331173786422175198573063497100997580514001687201107460954663316125478957798595539054184961559598237797664704262659180532304908040477991850939562903438514861452377276744961)), (.int .i64 (.ofNat 0), .string (nbS 7 83886420))]),
    (1245, .cells [.pointer (some ⟨1004, 0, none⟩), .pointer (some ⟨1276, 0, none⟩), .int .i64 (.ofNat 204), .int .i64 (.ofNat 200), .int .i64 (.ofNat 2), .int .i64 (.ofNat 1), .map (some 1243), .map (some 1244), .int .i64 (.ofNat 0)] 9 0),
    (1491, .cells [.pointer (some ⟨1245, 0, none⟩), .pointer (some ⟨1545, 0, none⟩), .int .i64 (.ofNat 1), .int .i64 (.ofNat 5), .int .i64 (.ofNat 1)] 5 0),
    (1541, .cells [.int .u64 (.ofNat 3), .int .u64 (.ofNat 0), .int .u64 (.ofNat 0), .int .u64 (.ofNat 0)] 4 0),
    (1543, .cells [.int .u64 (.ofNat 0), .int .u64 (.ofNat 0), .int .u64 (.ofNat 0), .int .u64 (.ofNat 0)] 4 0),
    (1545, .cells [.int .i64 (.ofNat 200), .slice (some ⟨1541, 0, none⟩) 4 9, .slice (some ⟨1543, 0, none⟩) 4 9, .int .i64 (.ofNat 0)] 4 0)]
  ans := .int .i64 (.ofNat 0)
  nx' := 6122
  post := [(1244, .map [(.int .i64 (.ofNat 1), .string (nbS 87 5136851467680830168404846028894462303446849807014429227226441201262776259663403679456828003931598614601905636731749190829299565674000560919465127813556519640597484068611414762734528560427620168891632538027521)), (.int .i64 (.ofNat 0), .string (nbS 7 100663636))]),
    (1245, .cells [.pointer (some ⟨1004, 0, none⟩), .pointer (some ⟨1276, 0, none⟩), .int .i64 (.ofNat 204), .int .i64 (.ofNat 200), .int .i64 (.ofNat 2), .int .i64 (.ofNat 1), .map (some 1243), .map (some 1244), .int .i64 (.ofNat 0)] 9 0),
    (1491, .cells [.pointer (some ⟨1245, 0, none⟩), .pointer (some ⟨1545, 0, none⟩), .int .i64 (.ofNat 1), .int .i64 (.ofNat 6), .int .i64 (.ofNat 1)] 5 0),
    (1541, .cells [.int .u64 (.ofNat 3), .int .u64 (.ofNat 0), .int .u64 (.ofNat 0), .int .u64 (.ofNat 0)] 4 0),
    (1543, .cells [.int .u64 (.ofNat 0), .int .u64 (.ofNat 0), .int .u64 (.ofNat 0), .int .u64 (.ofNat 0)] 4 0),
    (1545, .cells [.int .i64 (.ofNat 200), .slice (some ⟨1541, 0, none⟩) 4 9, .slice (some ⟨1543, 0, none⟩) 4 9, .int .i64 (.ofNat 0)] 4 0)]
/-- (*cistern/tree.Tree).Put -/
def kc23 : MS where
  args := [.pointer (some ⟨1491, 0, none⟩), .string (nbS 6 4398046538094), .string (nbS 9 18446744073709551618)]
  nx := 7007
  pre := [(1244, .map [(.int .i64 (.ofNat 1), .string (nbS 87 5136851467680830168404846028894462303446849807014429227226441201262776259663403679456828003931598614601905636731749190829299565674000560919465127813556519640597484068611414762734528560427620168891632538027521)), (.int .i64 (.ofNat 0), .string (nbS 7 100663636))]),
    (1245, .cells [.pointer (some ⟨1004, 0, none⟩), .pointer (some ⟨1276, 0, none⟩), .int .i64 (.ofNat 204), .int .i64 (.ofNat 200), .int .i64 (.ofNat 2), .int .i64 (.ofNat 1), .map (some 1243), .map (some 1244), .int .i64 (.ofNat 0)] 9 0),
    (1491, .cells [.pointer (some ⟨1245, 0, none⟩), .pointer (some ⟨1545, 0, none⟩), .int .i64 (.ofNat 1), .int .i64 (.ofNat 6), .int .i64 (.ofNat 1)] 5 0),
    (1541, .cells [.int .u64 (.ofNat 3), .int .u64 (.ofNat 0), .int .u64 (.ofNat 0), .int .u64 (.ofNat 0)] 4 0),
    (1543, .cells [.int .u64 (.ofNat 0), .int .u64 (.ofNat 0), .int .u64 (.ofNat 0), .int .u64 (.ofNat 0)] 4 0),
    (1545, .cells [.int .i64 (.ofNat 200), .slice (some ⟨1541, 0, none⟩) 4 9, .slice (some ⟨1543, 0, none⟩) 4 9, .int .i64 (.ofNat 0)] 4 0)]
  ans := .int .i64 (.ofNat 0)
  nx' := 7751
  post := [(1244, .map [(.int .i64 (.ofNat 1), .string (nbS 104 447482873841594757180043237044379932659642347159384781517789687452723229405235008417677875860425415508150622863821062602439152955487160834090829389607670245805523821495248933921797651659620836076246549893888289197616454415417438755231124933422024449)), (.int .i64 (.ofNat 0), .string (nbS 7 117440852))]),
    (1245, .cells [.pointer (some ⟨1004, 0, none⟩), .pointer (some ⟨1276, 0, none⟩), .int .i64 (.ofNat 204), .int .i64 (.ofNat 200), .int .i64 (.ofNat 2), .int .i64 (.ofNat 1), .map (some 1243), .map (some 1244), .int .i64 (.ofNat 0)] 9 0),
    (1491, .cells [.pointer (some ⟨1245, 0, none⟩), .pointer (some ⟨1545, 0, none⟩), .int .i64 (.ofNat 1), .int .i64 (.ofNat 7), .int .i64 (.ofNat 1)] 5 0),
    (1541, .cells [.int .u64 (.ofNat 3), .int .u64 (.ofNat 0), .int .u64 (.ofNat 0), .int .u64 (.ofNat 0)] 4 0),
    (1543, .cells [.int .u64 (.ofNat 0), .int .u64 (.ofNat 0), .int .u64 (.ofNat 0), .int .u64 (.ofNat 0)] 4 0),
    (1545, .cells [.int .i64 (.ofNat 200), .slice (some ⟨1541, 0, none⟩) 4 9, .slice (some ⟨1543, 0, none⟩) 4 9, .int .i64 (.ofNat 0)] 4 0)]
/-- (*cistern/tree.Tree).Put -/
def kc24 : MS where
  args := [.pointer (some ⟨1491, 0, none⟩), .string (nbS 2 28270), .string (nbS 4 83886080)]
  nx := 7761
  pre := [(1244, .map [(.int .i64 (.ofNat 1), .string (nbS 104 447482873841594757180043237044379932659642347159384781517789687452723229405235008417677875860425415508150622863821062602439152955487160834090829389607670245805523821495248933921797651659620836076246549893888289197616454415417438755231124933422024449)), (.int .i64 (.ofNat 0), .string (nbS 7 117440852))]),
    (1245, .cells [.pointer (some ⟨1004, 0, none⟩), .pointer (some ⟨1276, 0, none⟩), .int .i64 (.ofNat 204), .int .i64 (.ofNat 200), .int .i64 (.ofNat 2), .int .i64 (.ofNat 1), .map (some 1243), .map (some 1244), .int .i64 (.ofNat 0)] 9 0),
    (1491, .cells [.pointer (some ⟨1245, 0, none⟩), .pointer (some ⟨1545, 0, none⟩), .int .i64 (.ofNat 1), .int .i64 (.ofNat 7), .int .i64 (.ofNat 1)] 5 0),
    (1541, .cells [.int .u64 (.ofNat 3), .int .u64 (.ofNat 0), .int .u64 (.ofNat 0), .int .u64 (.ofNat 0)] 4 0),
    (1543, .cells [.int .u64 (.ofNat 0), .int .u64 (.ofNat 0), .int .u64 (.ofNat 0), .int .u64 (.ofNat 0)] 4 0),
    (1545, .cells [.int .i64 (.ofNat 200), .slice (some ⟨1541, 0, none⟩) 4 9, .slice (some ⟨1543, 0, none⟩) 4 9, .int .i64 (.ofNat 0)] 4 0)]
  ans := .int .i64 (.ofNat 0)
  nx' := 8548
  post := [(1244, .map [(.int .i64 (.ofNat 1), .string (nbS 104 559353592273137574384804111785297270514024140800676392960920350352375823176144790290120392523802870099671558446707780258979765692819478711826942772582531884948152236760792731196277344087273096920953737426043544070569308140443757441228620195556689665)), (.int .i64 (.ofNat 0), .string (nbS 7 117440852))]),
    (1245, .cells [.pointer (some ⟨1004, 0, none⟩), .pointer (some ⟨1276, 0, none⟩), .int .i64 (.ofNat 204), .int .i64 (.ofNat 200), .int .i64 (.ofNat 2), .int .i64 (.ofNat 1), .map (some 1243), .map (some 1244), .int .i64 (.ofNat 0)] 9 0),
    (1491, .cells [.pointer (some ⟨1245, 0, none⟩), .pointer (some ⟨1545, 0, none⟩), .int .i64 (.ofNat 1), .int .i64 (.ofNat 7), .int .i64 (.ofNat 1)] 5 0),
    (1541, .cells [.int .u64 (.ofNat 3), .int .u64 (.ofNat 0), .int .u64 (.ofNat 0), .int .u64 (.ofNat 0)] 4 0),
    (1543, .cells [.int .u64 (.ofNat 0), .int .u64 (.ofNat 0), .int .u64 (.ofNat 0), .int .u64 (.ofNat 0)] 4 0),
    (1545, .cells [.int .i64 (.ofNat 200), .slice (some ⟨1541, 0, none⟩) 4 9, .slice (some ⟨1543, 0, none⟩) 4 9, .int .i64 (.ofNat 0)] 4 0)]
/-- (*cistern/tree.Tree).Put -/
def kc25 : MS where
  args := [.pointer (some ⟨1491, 0, none⟩), .string (nbS 7 27867122206008686), .string (nbS 4 67108864)]
  nx := 8561
  pre := [(1244, .map [(.int .i64 (.ofNat 1), .string (nbS 104 559353592273137574384804111785297270514024140800676392960920350352375823176144790290120392523802870099671558446707780258979765692819478711826942772582531884948152236760792731196277344087273096920953737426043544070569308140443757441228620195556689665)), (.int .i64 (.ofNat 0), .string (nbS 7 117440852))]),
    (1245, .cells [.pointer (some ⟨1004, 0, none⟩), .pointer (some ⟨1276, 0, none⟩), .int .i64 (.ofNat 204), .int .i64 (.ofNat 200), .int .i64 (.ofNat 2), .int .i64 (.ofNat 1), .map (some 1243), .map (some 1244), .int .i64 (.ofNat 0)] 9 0),
    (1491, .cells [.pointer (some ⟨1245, 0, none⟩), .pointer (some ⟨1545, 0, none⟩), .int .i64 (.ofNat 1), .int .i64 (.ofNat 7), .int .i64 (.ofNat 1)] 5 0),
    (1541, .cells [.int .u64 (.ofNat 3), .int .u64 (.ofNat 0), .int .u64 (.ofNat 0), .int .u64 (.ofNat 0)] 4 0),
    (1543, .cells [.int .u64 (.ofNat 0), .int .u64 (.ofNat 0), .int .u64 (.ofNat 0), .int .u64 (.ofNat 0)] 4 0),
    (1545, .cells [.int .i64 (.ofNat 200), .slice (some ⟨1541, 0, none⟩) 4 9, .slice (some ⟨1543, 0, none⟩) 4 9, .int .i64 (.ofNat 0)] 4 0)]
  ans := .int .i64 (.ofNat 0)
  nx' := 9404
  post := [(1244, .map [(.int .i64 (.ofNat 1), .string (nbS 117 11345038671757746330255531238402936982049892491942949981929024866128819186191193978745163761613067557800787809669587643306365986627354988879364732104180757139444552050024621759820736992411641344635923091461445810222478699160947612536703948717359358922667536884882022544772543481857)), (.int .i64 (.ofNat 0), .string (nbS 7 134218068))]),
    (1245, .cells [.pointer (some ⟨1004, 0, none⟩), .pointer (some ⟨1276, 0, none⟩), .int .i64 (.ofNat 204), .int .i64 (.ofNat 200), .int .i64 (.ofNat 2), .int .i64 (.ofNat 1), .map (some 1243), .map (some 1244), .int .i64 (.ofNat 0)] 9 0),
    (1491, .cells [.pointer (some ⟨1245, 0, none⟩), .pointer (some ⟨1545, 0, none⟩), .int .i64 (.ofNat 1), .int .i64 (.ofNat 8), .int .i64 (.ofNat 1)] 5 0),
    (1541, .cells [.int .u64 (.ofNat 3), .int .u64 (.ofNat 0), .int .u64 (.ofNat 0), .int .u64 (.ofNat 0)] 4 0),
    (1543, .cells [.int .u64 (.ofNat 0), .int .u64 (.ofNat 0), .int .u64 (.ofNat 0), .int .u64 (.ofNat 0)] 4 0),
    (1545, .cells [.int .i64 (.ofNat 200), .slice (some ⟨1541, 0, none⟩) 4 9, .slice (some ⟨1543, 0, none⟩) 4 9, .int .i64 (.ofNat 0)] 4 0)]
/-- (*cistern/tree.Tree).Put -/
def kc29 : MS where
  args := [.pointer (some ⟨1491, 0, none⟩), .string (nbS 6 8589934712), .string (nbS 15 1107691939640644892371744050225610753)]
  nx := 10453
  pre := [(1244, .map [(.int .i64 (.ofNat 1), .string (nbS 117 11345038671757746330255531238402936982049892491942949981929024866128819186191193978745163761613067557800787809669587643306365986627354988879364732104180757139444552050024621759820736992411641344635923091461445810222478699160947612536703948717359358922667536884882022544772543481857)), (.int .i64 (.ofNat 0), .string (nbS 7 134218068))]),
    (1245, .cells [.pointer (some ⟨1004, 0, none⟩), .pointer (some ⟨1276, 0, none⟩), .int .i64 (.ofNat 204), .int .i64 (.ofNat 200), .int .i64 (.ofNat 2), .int .i64 (.ofNat 1), .map (some 1243), .map (some 1244), .int .i64 (.ofNat 0)] 9 0),
    (1491, .cells [.pointer (some ⟨1245, 0, none⟩), .pointer (some ⟨1545, 0, none⟩), .int .i64 (.ofNat 1), .int .i64 (.ofNat 8), .int .i64 (.ofNat 1)] 5 0),
    (1541, .cells [.int .u64 (.ofNat 3), .int .u64 (.ofNat 0), .int .u64 (.ofNat 0), .int .u64 (.ofNat 0)] 4 0),
    (1543, .cells [.int .u64 (.ofNat 0), .int .u64 (.ofNat 0), .int .u64 (.ofNat 0), .int .u64 (.ofNat 0)] 4 0),
    (1545, .cells [.int .i64 (.ofNat 200), .slice (some ⟨1541, 0, none⟩) 4 9, .slice (some ⟨1543, 0, none⟩) 4 9, .int .i64 (.ofNat 0)] 4 0)]
  ans := .int .i64 (.ofNat 0)
  nx' := 11394
  post := [(1244, .map [(.int .i64 (.ofNat 1), .string (nbS 140 11869014474358022992399398627886026180574889214725306249991569552816980856092785704408589098464376643082013232011205659685613735632888363637981072136624314270168398269294031238604312918617654635223358227797568423405417009029033953480527012351208850405003614528213662311911010227721574835251845464627281056220232248176781385397867205036289)), (.int .i64 (.ofNat 0), .string (nbS 7 150995284))]),
    (1245, .cells [.pointer (some ⟨1004, 0, none⟩), .pointer (some ⟨1276, 0, none⟩), .int .i64 (.ofNat 204), .int .i64 (.ofNat 200), .int .i64 (.ofNat 2), .int .i64 (.ofNat 1), .map (some 1243), .map (some 1244), .int .i64 (.ofNat 0)] 9 0),
    (1491, .cells [.pointer (some ⟨1245, 0, none⟩), .pointer (some ⟨1545, 0, none⟩), .int .i64 (.ofNat 1), .int .i64 (.ofNat 9), .int .i64 (.ofNat 1)] 5 0),
    (1541, .cells [.int .u64 (.ofNat 3), .int .u64 (.ofNat 0), .int .u64 (.ofNat 0), .int .u64 (.ofNat 0)] 4 0),
    (1543, .cells [.int .u64 (.ofNat 0), .int .u64 (.ofNat 0), .int .u64 (.ofNat 0), .int .u64 (.ofNat 0)] 4 0),
    (1545, .cells [.int .i64 (.ofNat 200), .slice (some ⟨1541, 0, none⟩) 4 9, .slice (some ⟨1543, 0, none⟩) 4 9, .int .i64 (.ofNat 0)] 4 0)]
/-- (*cistern/tree.Tree).Put -/
def kc31 : MS where
  args := [.pointer (some ⟨1491, 0, none⟩), .string (nbS 6 2199023282542), .string (nbS 9 18446744086594453505)]
  nx := 11896
  pre := [(1244, .map [(.int .i64 (.ofNat 1), .string (nbS 140 11869014474358022992399398627886026180574889214725306249991569552816980856092785704408589098464376643082013232011205659685613735632888363637981072136624314270168398269294031238604312918617654635223358227797568423405417009029033953480527012351208850405003614528213662311911010227721574835251845464627281056220232248176781385397867205036289)), (.int .i64 (.ofNat 0), .string (nbS 7 150995284))]),
    (1245, .cells [.pointer (some ⟨1004, 0, none⟩), .pointer (some ⟨1276, 0, none⟩), .int .i64 (.ofNat 204), .int .i64 (.ofNat 200), .int .i64 (.ofNat 2), .int .i64 (.ofNat 1), .map (some 1243), .map (some 1244), .int .i64 (.ofNat 0)] 9 0),
    (1491, .cells [.pointer (some ⟨1245, 0, none⟩), .pointer (some ⟨1545, 0, none⟩), .int .i64 (.ofNat 1), .int .i64 (.ofNat 9), .int .i64 (.ofNat 1)] 5 0),
    (1541, .cells [.int .u64 (.ofNat 3), .int .u64 (.ofNat 0), .int .u64 (.ofNat 0), .int .u64 (.ofNat 0)] 4 0),
    (1543, .cells [.int .u64 (.ofNat 0), .int .u64 (.ofNat 0), .int .u64 (.ofNat 0), .int .u64 (.ofNat 0)] 4 0),
    (1545, .cells [.int .i64 (.ofNat 200), .slice (some ⟨1541, 0, none⟩) 4 9, .slice (some ⟨1543, 0, none⟩) 4 9, .int .i64 (.ofNat 0)] 4 0)]
  ans := .int .i64 (.ofNat 0)
  nx' := 12881
  post := [(1244, .map [(.int .i64 (.ofNat 1), .string (nbS 140 11869014474358022992399398627886026180574889214725306249991569552816980856092785704408589098464376643082013232011205659685613735632888363637981072136624314270168398269305353125878777542674379298966323034470319187066666330314162572381263884838385296961261994703746638614535415352813866369951157218517055434117916550931079473528815391017217)), (.int .i64 (.ofNat 0), .string (nbS 7 150995284))]),
    (1245, .cells [.pointer (some ⟨1004, 0, none⟩), .pointer (some ⟨1276, 0, none⟩), .int .i64 (.ofNat 204), .int .i64 (.ofNat 200), .int .i64 (.ofNat 2), .int .i64 (.ofNat 1), .map (some 1243), .map (some 1244), .int .i64 (.ofNat 0)] 9 0),
    (1491, .cells [.pointer (some ⟨1245, 0, none⟩), .pointer (some ⟨1545, 0, none⟩), .int .i64 (.ofNat 1), .int .i64 (.ofNat 9), .int .i64 (.ofNat 1)] 5 0),
    (1541, .cells [.int .u64 (.ofNat 3), .int .u64 (.ofNat 0), .int .u64 (.ofNat 0), .int .u64 (.ofNat 0)] 4 0),
    (1543, .cells [.int .u64 (.ofNat 0), .int .u64 (.ofNat 0), .int .u64 (.ofNat 0), .int .u64 (.ofNat 0)] 4 0),
    (1545, .cells [.int .i64 (.ofNat 200), .slice (some ⟨1541, 0, none⟩) 4 9, .slice (some ⟨1543, 0, none⟩) 4 9, .int .i64 (.ofNat 0)] 4 0)]
/-- (*cistern/tree.Tree).Put -/
def kc36 : MS where
  args := [.pointer (some ⟨1491, 0, none⟩), .string (nbS 6 1108101562488), .string (nbS 15 1077144929538446488779436709667471361)]
  nx := 14412
  pre := [(5, .ro (nbV 64 315684040783403026461198565492879320519372303033823910828724750665742568755751545437592878574175936176031276695822391845783248645128493468529036736594176) 64),
    (1244, .map [(.int .i64 (.ofNat 1), .string (nbS 140 11869014474358022992399398627886026180574889214725306249991569552816980856092785704408589098464376643082013232011205659685613735632888363637981072136624314270168398269305353125878777542674379298966323034470319187066666330314162572381263884838385296961261994703746638614535415352813866369951157218517055434117916550931079473528815391017217)), (.int .i64 (.ofNat 0), .string (nbS 7 150995284))]),
    (1245, .cells [.pointer (some ⟨1004, 0, none⟩), .pointer (some ⟨1276, 0, none⟩), .int .i64 (.ofNat 204), .int .i64 (.ofNat 200), .int .i64 (.ofNat 2), .int .i64 (.ofNat 1), .map (some 1243), .map (some 1244), .int .i64 (.ofNat 0)] 9 0),
    (1491, .cells [.pointer (some ⟨1245, 0, none⟩), .pointer (some ⟨1545, 0, none⟩), .int .i64 (.ofNat 1), .int .i64 (.ofNat 9), .int .i64 (.ofNat 1)] 5 0),
    (1541, .cells [.int .u64 (.ofNat 3), .int .u64 (.ofNat 0), .int .u64 (.ofNat 0), .int .u64 (.ofNat 0)] 4 0),
    (1543, .cells [.int .u64 (.ofNat 0), .int .u64 (.ofNat 0), .int .u64 (.ofNat 0), .int .u64 (.ofNat 0)] 4 0),
    (1545, .cells [.int .i64 (.ofNat 200), .slice (some ⟨1541, 0, none⟩) 4 9, .slice (some ⟨1543, 0, none⟩) 4 9, .int .i64 (.ofNat 0)] 4 0)]
  ans := .int .i64 (.ofNat 0)
  nx' := 15909
  post := [(1244, .map [(.int .i64 (.ofNat 1), .string (nbS 92 1412006979354108748553794013760606305625320396815118612604995891413796582430748373555368051647255970275421006055915994210623367278925881736332509770861566137278676783633051063063000110442655341953735418537709258718774785)), (.int .i64 (.ofNat 0), .string (nbS 7 167773012)), (.int .i64 (.ofNat 2), .string (nbS 73 51308832126874800497528455286901197356616506119140749469761163316380883394864160894479346344863127069288145904575397898184092785011440269448262611874016809612881424612483007489)), (.int .i64 (.ofNat 3), .string (nbS 13 316912652001893502316301058562))]),
    (1245, .cells [.pointer (some ⟨1004, 0, none⟩), .pointer (some ⟨1276, 0, none⟩), .int .i64 (.ofNat 204), .int .i64 (.ofNat 200), .int .i64 (.ofNat 2), .int .i64 (.ofNat 1), .map (some 1243), .map (some 1244), .int .i64 (.ofNat 0)] 9 0),
    (1491, .cells [.pointer (some ⟨1245, 0, none⟩), .pointer (some ⟨1545, 0, none⟩), .int .i64 (.ofNat 3), .int .i64 (.ofNat 10), .int .i64 (.ofNat 2)] 5 0),
    (1541, .cells [.int .u64 (.ofNat 15), .int .u64 (.ofNat 0), .int .u64 (.ofNat 0), .int .u64 (.ofNat 0)] 4 0),
    (1543, .cells [.int .u64 (.ofNat 0), .int .u64 (.ofNat 0), .int .u64 (.ofNat 0), .int .u64 (.ofNat 0)] 4 0),
    (1545, .cells [.int .i64 (.ofNat 200), .slice (some ⟨1541, 0, none⟩) 4 9, .slice (some ⟨1543, 0, none⟩) 4 9, .int .i64 (.ofNat 0)] 4 0)]
/-- (*cistern/tree.Tree).Put -/
def kc38 : MS where
  args := [.pointer (some ⟨1491, 0, none⟩), .string (nbS 6 2199023282542), .string (nbS 9 18446744266999857153)]
  nx := 16321
  pre := [(1244, .map [(.int .i64 (.ofNat 1), .string (nbS 92 1412006979354108748553794013760606305625320396815118612604995891413796582430748373555368051647255970275421006055915994210623367278925881736332509770861566137278676783633051063063000110442655341953735418537709258718774785)), (.int .i64 (.ofNat 0), .string (nbS 7 167773012)), (.int .i64 (.ofNat 2), .string (nbS 73 51308832126874800497528455286901197356616506119140749469761163316380883394864160894479346344863127069288145904575397898184092785011440269448262611874016809612881424612483007489)), (.int .i64 (.ofNat 3), .string (nbS 13 316912652001893502316301058562))]),
    (1245, .cells [.pointer (some ⟨1004, 0, none⟩), .pointer (some ⟨1276, 0, none⟩), .int .i64 (.ofNat 204), .int .i64 (.ofNat 200), .int .i64 (.ofNat 2), .int .i64 (.ofNat 1), .map (some 1243), .map (some 1244), .int .i64 (.ofNat 0)] 9 0),
    (1491, .cells [.pointer (some ⟨1245, 0, none⟩), .pointer (some ⟨1545, 0, none⟩), .int .i64 (.ofNat 3), .int .i64 (.ofNat 10), .int .i64 (.ofNat 2)] 5 0),
    (1541, .cells [.int .u64 (.ofNat 15), .int .u64 (.ofNat 0), .int .u64 (.ofNat 0), .int .u64 (.ofNat 0)] 4 0),
    (1543, .cells [.int .u64 (.ofNat 0), .int .u64 (.ofNat 0), .int .u64 (.ofNat 0), .int .u64 (.ofNat 0)] 4 0),
    (1545, .cells [.int .i64 (.ofNat 200), .slice (some ⟨1541, 0, none⟩) 4 9, .slice (some ⟨1543, 0, none⟩) 4 9, .int .i64 (.ofNat 0)] 4 0)]
  ans := .int .i64 (.ofNat 0)
  nx' := 17604
  post := [(1244, .map [(.int .i64 (.ofNat 1), .string (nbS 92 1412006979354108748553794013760606305625320396815277133768879118109736634916722462834211917482736978025133230065082170759913221875044952520222491664327868517890808829040110567346303162376944143135398136430511453827958273)), (.int .i64 (.ofNat 0), .string (nbS 7 167773012)), (.int .i64 (.ofNat 2), .string (nbS 73 51308832126874800497528455286901197356616506119140749469761163316380883394864160894479346344863127069288145904575397898184092785011440269448262611874016809612881424612483007489)), (.int .i64 (.ofNat 3), .string (nbS 13 316912652001893502316301058562))]),
    (1245, .cells [.pointer (some ⟨1004, 0, none⟩), .pointer (some ⟨1276, 0, none⟩), .int .i64 (.ofNat 204), .int .i64 (.ofNat 200), .int .i64 (.ofNat 2), .int .i64 (.ofNat 1), .map (some 1243), .map (some 1244), .int .i64 (.ofNat 0)] 9 0),
    (1491, .cells [.pointer (some ⟨1245, 0, none⟩), .pointer (some ⟨1545, 0, none⟩), .int .i64 (.ofNat 3), .int .i64 (.ofNat 10), .int .i64 (.ofNat 2)] 5 0),
    (1541, .cells [.int .u64 (.ofNat 15), .int .u64 (.ofNat 0), .int .u64 (.ofNat 0), .int .u64 (.ofNat 0)] 4 0),
    (1543, .cells [.int .u64 (.ofNat 0), .int .u64 (.ofNat 0), .int .u64 (.ofNat 0), .int .u64 (.ofNat 0)] 4 0),
    (1545, .cells [.int .i64 (.ofNat 200), .slice (some ⟨1541, 0, none⟩) 4 9, .slice (some ⟨1543, 0, none⟩) 4 9, .int .i64 (.ofNat 0)] 4 0)]
/-- (*cistern/names.Names).Make -/
def kc12 : MS where
  args := [.pointer (some ⟨1559, 0, none⟩), .string (nbS 2 24879), .int .i64 (.ofNat 1)]
  nx := 2158
  pre := [(1244, .map [(.int .i64 (.ofNat 1), .string (nbS 27 822752279085043569021583718212089851110118394940076989461430785)), (.int .i64 (.ofNat 0), .string (nbS 7 33554772))]),
    (1245, .cells [.pointer (some ⟨1004, 0, none⟩), .pointer (some ⟨1276, 0, none⟩), .int .i64 (.ofNat 204), .int .i64 (.ofNat 200), .int .i64 (.ofNat 2), .int .i64 (.ofNat 1), .map (some 1243), .map (some 1244), .int .i64 (.ofNat 0)] 9 0),
    (1491, .cells [.pointer (some ⟨1245, 0, none⟩), .pointer (some ⟨1545, 0, none⟩), .int .i64 (.ofNat 1), .int .i64 (.ofNat 2), .int .i64 (.ofNat 1)] 5 0),
    (1541, .cells [.int .u64 (.ofNat 3), .int .u64 (.ofNat 0), .int .u64 (.ofNat 0), .int .u64 (.ofNat 0)] 4 0),
    (1543, .cells [.int .u64 (.ofNat 0), .int .u64 (.ofNat 0), .int .u64 (.ofNat 0), .int .u64 (.ofNat 0)] 4 0),
    (1545, .cells [.int .i64 (.ofNat 200), .slice (some ⟨1541, 0, none⟩) 4 9, .slice (some ⟨1543, 0, none⟩) 4 9, .int .i64 (.ofNat 0)] 4 0),
    (1559, .cells [.pointer (some ⟨1491, 0, none⟩)] 1 0)]
  ans := .tuple #[.int .i64 (.ofNat 2), .int .i64 (.ofNat 0)]
  nx' := 3706
  post := [(1244, .map [(.int .i64 (.ofNat 1), .string (nbS 57 2180516173636742207955932073570715549380365489422519788309305207554470003776533291922287239976253489028239853523955946858113973052965889)), (.int .i64 (.ofNat 0), .string (nbS 7 67109204))]),
    (1245, .cells [.pointer (some ⟨1004, 0, none⟩), .pointer (some ⟨1276, 0, none⟩), .int .i64 (.ofNat 204), .int .i64 (.ofNat 200), .int .i64 (.ofNat 2), .int .i64 (.ofNat 1), .map (some 1243), .map (some 1244), .int .i64 (.ofNat 0)] 9 0),
    (1491, .cells [.pointer (some ⟨1245, 0, none⟩), .pointer (some ⟨1545, 0, none⟩), .int .i64 (.ofNat 1), .int .i64 (.ofNat 4), .int .i64 (.ofNat 1)] 5 0),
    (1541, .cells [.int .u64 (.ofNat 3), .int .u64 (.ofNat 0), .int .u64 (.ofNat 0), .int .u64 (.ofNat 0)] 4 0),
    (1543, .cells [.int .u64 (.ofNat 0), .int .u64 (.ofNat 0), .int .u64 (.ofNat 0), .int .u64 (.ofNat 0)] 4 0),
    (1545, .cells [.int .i64 (.ofNat 200), .slice (some ⟨1541, 0, none⟩) 4 9, .slice (some ⟨1543, 0, none⟩) 4 9, .int .i64 (.ofNat 0)] 4 0),
    (1559, .cells [.pointer (some ⟨1491, 0, none⟩)] 1 0)]
/-- (*cistern/names.Names).Make -/
def kc19 : MS where
  args := [.pointer (some ⟨1559, 0, none⟩), .string (nbS 2 25135), .int .i64 (.ofNat 1)]
  nx := 3706
  pre := [(1244, .map [(.int .i64 (.ofNat 1), .string (nbS 57 2180516173636742207955932073570715549380365489422519788309305207554470003776533291922287239976253489028239853523955946858113973052965889)), (.int .i64 (.ofNat 0), .string (nbS 7 67109204))]),
    (1245, .cells [.pointer (some ⟨1004, 0, none⟩), .pointer (some ⟨1276, 0, none⟩), .int .i64 (.ofNat 204), .int .i64 (.ofNat 200), .int .i64 (.ofNat 2), .int .i64 (.ofNat 1), .map (some 1243), .map (some 1244), .int .i64 (.ofNat 0)] 9 0),
    (1491, .cells [.pointer (some ⟨1245, 0, none⟩), .pointer (some ⟨1545, 0, none⟩), .int .i64 (.ofNat 1), .int .i64 (.ofNat 4), .int .i64 (.ofNat 1)] 5 0),
    (1541, .cells [.int .u64 (.ofNat 3), .int .u64 (.ofNat 0), .int .u64 (.ofNat 0), .int .u64 (.ofNat 0)] 4 0),
    (1543, .cells [.int .u64 (.ofNat 0), .int .u64 (.ofNat 0), .int .u64 (.ofNat 0), .int .u64 (.ofNat 0)] 4 0),
    (1545, .cells [.int .i64 (.ofNat 200), .slice (some ⟨1541, 0, none⟩) 4 9, .slice (some ⟨1543, 0, none⟩) 4 9, .int .i64 (.ofNat 0)] 4 0),
    (1559, .cells [.pointer (some ⟨1491, 0, none⟩)] 1 0)]
  ans := .tuple #[.int .i64 (.ofNat 3), .int .i64 (.ofNat 0)]
  nx' := 6122
  post := [(1244, .map [(.int .i64 (.ofNat 1), .string (nbS 87 5136851467680830168404846028894462303446849807014429227226441201262776259663403679456828003931598614601905636731749190829299565674000560919465127813556519640597484068611414762734528560427620168891632538027521)), (.int .i64 (.ofNat 0), .string (nbS 7 100663636))]),
    (1245, .cells [.pointer (some ⟨1004, 0, none⟩), .pointer (some ⟨1276, 0, none⟩), .int .i64 (.ofNat 204), .int .i64 (.ofNat 200), .int .i64 (.ofNat 2), .int .i64 (.ofNat 1), .map (some 1243), .map (some 1244), .int .i64 (.ofNat 0)] 9 0),
    (1491, .cells [.pointer (some ⟨1245, 0, none⟩), .pointer (some ⟨1545, 0, none⟩), .int .i64 (.ofNat 1), .int .i64 (.ofNat 6), .int .i64 (.ofNat 1)] 5 0),
    (1541, .cells [.int .u64 (.ofNat 3), .int .u64 (.ofNat 0), .int .u64 (.ofNat 0), .int .u64 (.ofNat 0)] 4 0),
    (1543, .cells [.int .u64 (.ofNat 0), .int .u64 (.ofNat 0), .int .u64 (.ofNat 0), .int .u64 (.ofNat 0)] 4 0),
    (1545, .cells [.int .i64 (.ofNat 200), .slice (some ⟨1541, 0, none⟩) 4 9, .slice (some ⟨1543, 0, none⟩) 4 9, .int .i64 (.ofNat 0)] 4 0),
    (1559, .cells [.pointer (some ⟨1491, 0, none⟩)] 1 0)]
/-- (*cistern/names.Names).Make -/
def kc26 : MS where
  args := [.pointer (some ⟨1559, 0, none⟩), .string (nbS 2 25391), .int .i64 (.ofNat 2)]
  nx := 6122
  pre := [(1244, .map [(.int .i64 (.ofNat 1), .string (nbS 87 5136851467680830168404846028894462303446849807014429227226441201262776259663403679456828003931598614601905636731749190829299565674000560919465127813556519640597484068611414762734528560427620168891632538027521)), (.int .i64 (.ofNat 0), .string (nbS 7 100663636))]),
    (1245, .cells [.pointer (some ⟨1004, 0, none⟩), .pointer (some ⟨1276, 0, none⟩), .int .i64 (.ofNat 204), .int .i64 (.ofNat 200), .int .i64 (.ofNat 2), .int .i64 (.ofNat 1), .map (some 1243), .map (some 1244), .int .i64 (.ofNat 0)] 9 0),
    (1491, .cells [.pointer (some ⟨1245, 0, none⟩), .pointer (some ⟨1545, 0, none⟩), .int .i64 (.ofNat 1), .int .i64 (.ofNat 6), .int .i64 (.ofNat 1)] 5 0),
    (1541, .cells [.int .u64 (.ofNat 3), .int .u64 (.ofNat 0), .int .u64 (.ofNat 0), .int .u64 (.ofNat 0)] 4 0),
    (1543, .cells [.int .u64 (.ofNat 0), .int .u64 (.ofNat 0), .int .u64 (.ofNat 0), .int .u64 (.ofNat 0)] 4 0),
    (1545, .cells [.int .i64 (.ofNat 200), .slice (some ⟨1541, 0, none⟩) 4 9, .slice (some ⟨1543, 0, none⟩) 4 9, .int .i64 (.ofNat 0)] 4 0),
    (1559, .cells [.pointer (some ⟨1491, 0, none⟩)] 1 0)]
  ans := .tuple #[.int .i64 (.ofNat 4), .int .i64 (.ofNat 0)]
  nx' := 9404
  post := [(1244, .map [(.int .i64 (.ofNat 1), .string (nbS 117 11345038671757746330255531238402936982049892491942949981929024866128819186191193978745163761613067557800787809669587643306365986627354988879364732104180757139444552050024621759820736992411641344635923091461445810222478699160947612536703948717359358922667536884882022544772543481857)), (.int .i64 (.ofNat 0), .string (nbS 7 134218068))]),
    (1245, .cells [.pointer (some ⟨1004, 0, none⟩), .pointer (some ⟨1276, 0, none⟩), .int .i64 (.ofNat 204), .int .i64 (.ofNat 200), .int .i64 (.ofNat 2), .int .i64 (.ofNat 1), .map (some 1243), .map (some 1244), .int .i64 (.ofNat 0)] 9 0),
    (1491, .cells [.pointer (some ⟨1245, 0, none⟩), .pointer (some ⟨1545, 0, none⟩), .int .i64 (.ofNat 1), .int .i64 (.ofNat 8), .int .i64 (.ofNat 1)] 5 0),
    (1541, .cells [.int .u64 (.ofNat 3), .int .u64 (.ofNat 0), .int .u64 (.ofNat 0), .int .u64 (.ofNat 0)] 4 0),
    (1543, .cells [.int .u64 (.ofNat 0), .int .u64 (.ofNat 0), .int .u64 (.ofNat 0), .int .u64 (.ofNat 0)] 4 0),
    (1545, .cells [.int .i64 (.ofNat 200), .slice (some ⟨1541, 0, none⟩) 4 9, .slice (some ⟨1543, 0, none⟩) 4 9, .int .i64 (.ofNat 0)] 4 0),
    (1559, .cells [.pointer (some ⟨1491, 0, none⟩)] 1 0)]
/-- (*cistern/files.Files).Write -/
def kc32 : MS where
  args := [.pointer (some ⟨2157, 0, none⟩), .int .i64 (.ofNat 2), .int .i64 (.ofNat 0), .slice (some ⟨9404, 0, none⟩) 3 7]
  nx := 9405
  pre := [(5, .ro (nbV 64 315684040783403026461198565492879320519372303033823910828724750665742568755751545437592878574175936176031276695822391845783248645128493468529036736594176) 64),
    (1004, .cells [.slice (some ⟨1005, 0, none⟩) 415 831, .slice none 0 0, .bool false, .bool false, .int .i64 (.ofNat 0)] 5 0),
    (1244, .map [(.int .i64 (.ofNat 1), .string (nbS 117 11345038671757746330255531238402936982049892491942949981929024866128819186191193978745163761613067557800787809669587643306365986627354988879364732104180757139444552050024621759820736992411641344635923091461445810222478699160947612536703948717359358922667536884882022544772543481857)), (.int .i64 (.ofNat 0), .string (nbS 7 134218068))]),
    (1245, .cells [.pointer (some ⟨1004, 0, none⟩), .pointer (some ⟨1276, 0, none⟩), .int .i64 (.ofNat 204), .int .i64 (.ofNat 200), .int .i64 (.ofNat 2), .int .i64 (.ofNat 1), .map (some 1243), .map (some 1244), .int .i64 (.ofNat 0)] 9 0),
    (1491, .cells [.pointer (some ⟨1245, 0, none⟩), .pointer (some ⟨1545, 0, none⟩), .int .i64 (.ofNat 1), .int .i64 (.ofNat 8), .int .i64 (.ofNat 1)] 5 0),
    (1541, .cells [.int .u64 (.ofNat 3), .int .u64 (.ofNat 0), .int .u64 (.ofNat 0), .int .u64 (.ofNat 0)] 4 0),
    (1543, .cells [.int .u64 (.ofNat 0), .int .u64 (.ofNat 0), .int .u64 (.ofNat 0), .int .u64 (.ofNat 0)] 4 0),
    (1545, .cells [.int .i64 (.ofNat 200), .slice (some ⟨1541, 0, none⟩) 4 9, .slice (some ⟨1543, 0, none⟩) 4 9, .int .i64 (.ofNat 0)] 4 0),
    (1559, .cells [.pointer (some ⟨1491, 0, none⟩)] 1 0),
    (2043, .cells [.pointer (some ⟨1491, 0, none⟩), .pointer (some ⟨1004, 0, none⟩), .int .i64 (.ofNat 406), .pointer (some ⟨2134, 0, none⟩), .int .i64 (.ofNat 0)] 5 0),
    (2130, .cells [.int .u64 (.ofNat 0)] 1 0),
    (2132, .cells [.int .u64 (.ofNat 0)] 1 0),
    (2134, .cells [.int .i64 (.ofNat 9), .slice (some ⟨2130, 0, none⟩) 1 3, .slice (some ⟨2132, 0, none⟩) 1 3, .int .i64 (.ofNat 0)] 4 0),
    (2157, .cells [.pointer (some ⟨1559, 0, none⟩), .pointer (some ⟨2043, 0, none⟩), .pointer (some ⟨1001, 0, none⟩)] 3 0),
    (9404, .cells [.int .u8 (.ofNat 97), .int .u8 (.ofNat 98), .int .u8 (.ofNat 99)] 3 1)]
  ans := .int .i64 (.ofNat 0)
  nx' := 12881
  post := [(1004, .cells [.slice (some ⟨1005, 0, none⟩) 415 831, .slice (some ⟨10392, 0, none⟩) 1 2, .bool false, .bool false, .int .i64 (.ofNat 0)] 5 0),
    (1244, .map [(.int .i64 (.ofNat 1), .string (nbS 140 11869014474358022992399398627886026180574889214725306249991569552816980856092785704408589098464376643082013232011205659685613735632888363637981072136624314270168398269305353125878777542674379298966323034470319187066666330314162572381263884838385296961261994703746638614535415352813866369951157218517055434117916550931079473528815391017217)), (.int .i64 (.ofNat 0), .string (nbS 7 150995284))]),
    (1245, .cells [.pointer (some ⟨1004, 0, none⟩), .pointer (some ⟨1276, 0, none⟩), .int .i64 (.ofNat 204), .int .i64 (.ofNat 200), .int .i64 (.ofNat 2), .int .i64 (.ofNat 1), .map (some 1243), .map (some 1244), .int .i64 (.ofNat 0)] 9 0),
    (1491, .cells [.pointer (some ⟨1245, 0, none⟩), .pointer (some ⟨1545, 0, none⟩), .int .i64 (.ofNat 1), .int .i64 (.ofNat 9), .int .i64 (.ofNat 1)] 5 0),
    (1541, .cells [.int .u64 (.ofNat 3), .int .u64 (.ofNat 0), .int .u64 (.ofNat 0), .int .u64 (.ofNat 0)] 4 0),
    (1543, .cells [.int .u64 (.ofNat 0), .int .u64 (.ofNat 0), .int .u64 (.ofNat 0), .int .u64 (.ofNat 0)] 4 0),
    (1545, .cells [.int .i64 (.ofNat 200), .slice (some ⟨1541, 0, none⟩) 4 9, .slice (some ⟨1543, 0, none⟩) 4 9, .int .i64 (.ofNat 0)] 4 0),
    (1559, .cells [.pointer (some ⟨1491, 0, none⟩)] 1 0),
    (2043, .cells [.pointer (some ⟨1491, 0, none⟩), .pointer (some ⟨1004, 0, none⟩), .int .i64 (.ofNat 406), .pointer (some ⟨2134, 0, none⟩), .int .i64 (.ofNat 0)] 5 0),
    (2130, .cells [.int .u64 (.ofNat 1)] 1 0),
    (2132, .cells [.int .u64 (.ofNat 0)] 1 0),
    (2134, .cells [.int .i64 (.ofNat 9), .slice (some ⟨2130, 0, none⟩) 1 3, .slice (some ⟨2132, 0, none⟩) 1 3, .int .i64 (.ofNat 0)] 4 0),
    (2157, .cells [.pointer (some ⟨1559, 0, none⟩), .pointer (some ⟨2043, 0, none⟩), .pointer (some ⟨1001, 0, none⟩)] 3 0),
    (9404, .cells [.int .u8 (.ofNat 97), .int .u8 (.ofNat 98), .int .u8 (.ofNat 99)] 3 1),
    (10392, .cells [.int .i64 (.ofNat 406), .slice (some ⟨10391, 0, none⟩) 256 512] 2 356515844)]
/-- (*cistern/files.Files).Write -/
def kc39 : MS where
  args := [.pointer (some ⟨2157, 0, none⟩), .int .i64 (.ofNat 2), .int .i64 (.ofNat 300), .slice (some ⟨12881, 0, none⟩) 1 3]
  nx := 12882
  pre := [(5, .ro (nbV 64 315684040783403026461198565492879320519372303033823910828724750665742568755751545437592878574175936176031276695822391845783248645128493468529036736594176) 64),
    (1004, .cells [.slice (some ⟨1005, 0, none⟩) 415 831, .slice (some ⟨10392, 0, none⟩) 1 2, .bool false, .bool false, .int .i64 (.ofNat 0)] 5 0),
    (1244, .map [(.int .i64 (.ofNat 1), .string (nbS 140 11869014474358022992399398627886026180574889214725306249991569552816980856092785704408589098464376643082013232011205659685613735632888363637981072136624314270168398269305353125878777542674379298966323034470319187066666330314162572381263884838385296961261994703746638614535415352813866369951157218517055434117916550931079473528815391017217)), (.int .i64 (.ofNat 0), .string (nbS 7 150995284))]),
    (1245, .cells [.pointer (some ⟨1004, 0, none⟩), .pointer (some ⟨1276, 0, none⟩), .int .i64 (.ofNat 204), .int .i64 (.ofNat 200), .int .i64 (.ofNat 2), .int .i64 (.ofNat 1), .map (some 1243), .map (some 1244), .int .i64 (.ofNat 0)] 9 0),
    (1491, .cells [.pointer (some ⟨1245, 0, none⟩), .pointer (some ⟨1545, 0, none⟩), .int .i64 (.ofNat 1), .int .i64 (.ofNat 9), .int .i64 (.ofNat 1)] 5 0),
    (1541, .cells [.int .u64 (.ofNat 3), .int .u64 (.ofNat 0), .int .u64 (.ofNat 0), .int .u64 (.ofNat 0)] 4 0),
    (1543, .cells [.int .u64 (.ofNat 0), .int .u64 (.ofNat 0), .int .u64 (.ofNat 0), .int .u64 (.ofNat 0)] 4 0),
    (1545, .cells [.int .i64 (.ofNat 200), .slice (some ⟨1541, 0, none⟩) 4 9, .slice (some ⟨1543, 0, none⟩) 4 9, .int .i64 (.ofNat 0)] 4 0),
    (1559, .cells [.pointer (some ⟨1491, 0, none⟩)] 1 0),
    (2043, .cells [.pointer (some ⟨1491, 0, none⟩), .pointer (some ⟨1004, 0, none⟩), .int .i64 (.ofNat 406), .pointer (some ⟨2134, 0, none⟩), .int .i64 (.ofNat 0)] 5 0),
    (2130, .cells [.int .u64 (.ofNat 1)] 1 0),
    (2132, .cells [.int .u64 (.ofNat 0)] 1 0),
    (2134, .cells [.int .i64 (.ofNat 9), .slice (some ⟨2130, 0, none⟩) 1 3, .slice (some ⟨2132, 0, none⟩) 1 3, .int .i64 (.ofNat 0)] 4 0),
    (2157, .cells [.pointer (some ⟨1559, 0, none⟩), .pointer (some ⟨2043, 0, none⟩), .pointer (some ⟨1001, 0, none⟩)] 3 0),
    (10392, .cells [.int .i64 (.ofNat 406), .slice (some ⟨10391, 0, none⟩) 256 512] 2 356515844),
    (12881, .cells [.int .u8 (.ofNat 120)] 1 1)]
  ans := .int .i64 (.ofNat 0)
  nx' := 17604
  post := [(1004, .cells [.slice (some ⟨1005, 0, none⟩) 415 831, .slice (some ⟨14351, 0, none⟩) 2 4, .bool false, .bool false, .int .i64 (.ofNat 0)] 5 0),
    (1244, .map [(.int .i64 (.ofNat 1), .string (nbS 92 1412006979354108748553794013760606305625320396815277133768879118109736634916722462834211917482736978025133230065082170759913221875044952520222491664327868517890808829040110567346303162376944143135398136430511453827958273)), (.int .i64 (.ofNat 0), .string (nbS 7 167773012)), (.int .i64 (.ofNat 2), .string (nbS 73 51308832126874800497528455286901197356616506119140749469761163316380883394864160894479346344863127069288145904575397898184092785011440269448262611874016809612881424612483007489)), (.int .i64 (.ofNat 3), .string (nbS 13 316912652001893502316301058562))]),
    (1245, .cells [.pointer (some ⟨1004, 0, none⟩), .pointer (some ⟨1276, 0, none⟩), .int .i64 (.ofNat 204), .int .i64 (.ofNat 200), .int .i64 (.ofNat 2), .int .i64 (.ofNat 1), .map (some 1243), .map (some 1244), .int .i64 (.ofNat 0)] 9 0),
    (1491, .cells [.pointer (some ⟨1245, 0, none⟩), .pointer (some ⟨1545, 0, none⟩), .int .i64 (.ofNat 3), .int .i64 (.ofNat 10), .int .i64 (.ofNat 2)] 5 0),
    (1541, .cells [.int .u64 (.ofNat 15), .int .u64 (.ofNat 0), .int .u64 (.ofNat 0), .int .u64 (.ofNat 0)] 4 0),
    (1543, .cells [.int .u64 (.ofNat 0), .int .u64 (.ofNat 0), .int .u64 (.ofNat 0), .int .u64 (.ofNat 0)] 4 0),
    (1545, .cells [.int .i64 (.ofNat 200), .slice (some ⟨1541, 0, none⟩) 4 9, .slice (some ⟨1543, 0, none⟩) 4 9, .int .i64 (.ofNat 0)] 4 0),
    (1559, .cells [.pointer (some ⟨1491, 0, none⟩)] 1 0),
    (2043, .cells [.pointer (some ⟨1491, 0, none⟩), .pointer (some ⟨1004, 0, none⟩), .int .i64 (.ofNat 406), .pointer (some ⟨2134, 0, none⟩), .int .i64 (.ofNat 0)] 5 0),
    (2130, .cells [.int .u64 (.ofNat 3)] 1 0),
    (2132, .cells [.int .u64 (.ofNat 0)] 1 0),
    (2134, .cells [.int .i64 (.ofNat 9), .slice (some ⟨2130, 0, none⟩) 1 3, .slice (some ⟨2132, 0, none⟩) 1 3, .int .i64 (.ofNat 0)] 4 0),
    (2157, .cells [.pointer (some ⟨1559, 0, none⟩), .pointer (some ⟨2043, 0, none⟩), .pointer (some ⟨1001, 0, none⟩)] 3 0),
    (10392, .dead),
    (12881, .cells [.int .u8 (.ofNat 120)] 1 1),
    (14350, .cells (nbV 256 1100879335675234325573194029745001731582351194800774939394042642905722980522472707873608905492860329546219520) 256 6291458),
    (14351, .cells [.int .i64 (.ofNat 406), .slice (some ⟨10391, 0, none⟩) 256 512, .int .i64 (.ofNat 407), .slice (some ⟨14350, 0, none⟩) 256 512] 4 356515844)]
end
end Go.Proofs
